/- Texts of one proof, one behind the other: RcT, RdB, DrP, DrA. No condition but each one's own. -/
import Derived.Test.YtdojmjglnlkmoaaDoorRecordPlaysM13
import Derived.Test.YtdojmjglnlkmoaaDoorRecordPlaysM19
import Derived.ChangeKeysEq
import Derived.Test.YtdojmjglnlkmoaaDoorRecordPlaysM6
/- What a keeper's disk holds, in plain words: what is saved is opened, and what a power cut leaves. No condition. -/
namespace Go.Proofs.YtdojmjglnlkmoaaDoor
set_option linter.unusedVariables false
set_option linter.unusedSimpArgs false
set_option linter.constructorNameAsVariable false
open Go.RowKit Go.Sort

theorem get_put (p : DP) (a : Int) (s : List Int) (x : Int) : (p.put a s).get x = if x = a then s else p.get x := by
  unfold DP.get DP.put upd
  by_cases h : x = a
  · simp [h]
  · simp [h]
theorem get_burn (p : DP) (x : Int) : p.burn.get x = p.get x := rfl
theorem get_write (p : DP) (a : Int) (s : List Int) (x : Int) : (p.write a s).get x = if x = a then s else p.get x := by unfold DP.write; rw [get_put, get_burn]
theorem get_sync (p : DP) (x : Int) : p.sync.get x = p.get x := by
  unfold DP.get DP.sync
  cases h : p.fresh x <;> simp [h]
theorem within_eq {p q : DP} (h : p.size = q.size) (x : Int) : p.within x = q.within x := by unfold DP.within; rw [h]
theorem slotB_congr {p q : DP} (hz : p.size = q.size) {s : Nat} (h0 : p.get ((2 * s : Nat) : Int) = q.get ((2 * s : Nat) : Int)) (h1 : p.get ((2 * s + 1 : Nat) : Int) = q.get ((2 * s + 1 : Nat) : Int)) : slotB p s = slotB q s := by
  unfold slotB DP.rget
  rw [within_eq hz, within_eq hz, h0, h1]
theorem slot_all {p q : DP} (s : Nat) (hg : ∀ x, q.get x = p.get x) (hz : q.size = p.size) : slotB q s = slotB p s := slotB_congr hz (hg _) (hg _)
theorem slotB_in {p : DP} {s : Nat} (hs : s < 2) (hz : 4 ≤ p.size) : slotB p s = p.get ((2 * s : Nat) : Int) ++ p.get ((2 * s + 1 : Nat) : Int) := by
  unfold slotB DP.rget
  rw [if_pos (by unfold DP.within; exact decide_eq_true (by omega)), if_pos (by unfold DP.within; exact decide_eq_true (by omega))]
theorem openP_congr {p q : DP} (h0 : slotB p 0 = slotB q 0) (h1 : slotB p 1 = slotB q 1) : openP p = openP q := by unfold openP; rw [h0, h1]
/-- What makes a disk open to this keeper. -/
structure Kop (p : DP) (k : KR) : Prop where
  nb : k.broken = false
  z : k.number = 0 → k.now = rc0 ∧ getN 0 (slotB p 0) = 0 ∧ getN 1 (slotB p 1) = 0
  nz : 0 < k.number → slotB p (k.number % 2) = putL k.number k.now ∧ k.now.Ok ∧ k.now.Right ∧ getN ((k.number + 1) % 2) (slotB p ((k.number + 1) % 2)) < k.number
  lt : k.number < 18446744073709551615
theorem getN_put {n s : Nat} {r : Rc} (h : r.Ok) (hn : n < 18446744073709551616) (hs : n % 2 = s) (hr : r.Right) : getN s (putL n r) = n ∧ getR s (putL n r) = r := by
  unfold getN getR
  rw [if_pos (recIn_put h hn hs hr), if_pos (recIn_put h hn hs hr), numOf_put hn, rcOf_put h]
  exact ⟨rfl, rfl⟩
theorem takeK_no {k : KR} {n : Nat} {r : Rc} (h : ¬ k.number < n) : takeK k n r = k := if_neg h
theorem takeK_yes {k : KR} {n : Nat} {r : Rc} (h : k.number < n) : takeK k n r = { k with number := n, now := r } := if_pos h
theorem takeK_num (k : KR) (n : Nat) (r : Rc) : (takeK k n r).number ≤ max k.number n ∧ (takeK k n r).broken = k.broken := by
  unfold takeK
  split
  · exact ⟨by show n ≤ _; omega, rfl⟩
  · exact ⟨by omega, rfl⟩
theorem Kop.opens {p : DP} {k : KR} (h : Kop p k) : openP p = k := by
  obtain ⟨number, now, broken⟩ := k
  have hb : broken = false := h.nb
  subst hb
  unfold openP
  by_cases hz : number = 0
  · subst hz
    obtain ⟨h1, h2, h3⟩ := h.z rfl
    have h1 : now = rc0 := h1
    rw [h2, h3, takeK_no (k := KR.new) (by show ¬ (0 < 0); omega), takeK_no (k := KR.new) (by show ¬ (0 < 0); omega), h1]
    rfl
  · obtain ⟨h1, h2, h3, h4⟩ := h.nz (by show 0 < number; omega)
    have h1 : slotB p (number % 2) = putL number now := h1
    have h2 : now.Ok := h2
    have h3 : now.Right := h3
    have h4 : getN ((number + 1) % 2) (slotB p ((number + 1) % 2)) < number := h4
    have hlt : number < 18446744073709551615 := h.lt
    obtain ⟨g1, g2⟩ := getN_put (n := number) h2 (by omega) rfl h3
    rcases (show number % 2 = 0 ∨ number % 2 = 1 by omega) with he | he
    · have he2 : (number + 1) % 2 = 1 := by omega
      rw [he] at h1 g1 g2
      rw [he2] at h4
      rw [h1, g1, g2, takeK_yes (k := KR.new) (by show 0 < number; omega), takeK_no (by show ¬ (number < _); omega)]
      rfl
    · have he2 : (number + 1) % 2 = 0 := by omega
      rw [he] at h1 g1 g2
      rw [he2] at h4
      rw [h1, g1, g2]
      have ht := takeK_num KR.new (getN 0 (slotB p 0)) (getR 0 (slotB p 0))
      have h0 : KR.new.number = 0 := rfl
      rw [takeK_yes (by omega)]
      have hb := ht.2
      cases hk : takeK KR.new (getN 0 (slotB p 0)) (getR 0 (slotB p 0)) with
      | mk a b c => rw [hk] at hb; simp only at hb; rw [hb]; rfl
structure Kst (p : DP) (k : KR) : Prop extends Kop p k where
  ok : p.Ok
  sz : 4 ≤ p.size
  clean : p.order = []
  down : p.down = false
  snd : ∀ s, s < 2 → ∃ j, j ≤ k.number ∧ cutL (slotB p s) 64 8 = beL 8 j
theorem slotB_new (n s : Nat) : slotB (DP.new n) s = List.replicate 128 0 := by
  have h : ∀ x, (DP.new n).rget x = sec0 := fun x => by
    unfold DP.rget
    split <;> rfl
  unfold slotB
  rw [h, h]
  rfl
theorem getN_zero (s : Nat) : getN s (List.replicate 128 0) = 0 := by
  unfold getN
  rw [if_neg]
  intro h
  have h1 := h.2.2.blocks1
  have h2 : (rcOf (List.replicate 128 0)).blocks = 0 := by decide
  omega
theorem Kst.new {n : Nat} (h1 : 4 ≤ n) (h2 : n ≤ 16384) : Kst (DP.new n) KR.new where
  nb := rfl
  z := fun _ => ⟨rfl, by rw [slotB_new, getN_zero], by rw [slotB_new, getN_zero]⟩
  nz := fun h => absurd h (by show ¬ (0 < 0); omega)
  lt := by show 0 < _; omega
  ok := DP.new_ok (by omega) h2
  sz := h1
  clean := rfl
  down := rfl
  snd := fun s _ => ⟨0, Nat.le_refl _, by rw [slotB_new]; decide⟩
theorem Kst.fresh {p : DP} {k : KR} (h : Kst p k) (x : Int) : p.fresh x = none := by
  have := (h.ok.ord x).2
  rw [h.clean] at this
  cases hx : p.fresh x with
  | none => rfl
  | some s => exact absurd (this (by rw [hx]; simp)) (by simp)
theorem beL_inj {a b : Nat} (ha : a < 18446744073709551616) (hb : b < 18446744073709551616) (h : beL 8 a = beL 8 b) : a = b := by
  have h1 := valL_beL 8 a (by omega)
  have h2 := valL_beL 8 b (by omega)
  rw [← h1, ← h2, h]
/-- Both writes and the sync went well. -/
theorem writeP_ok {p : DP} {n : Nat} {all : List Int} (hz : 4 ≤ p.size) (hd : p.down = false) (hf : p.fuse ≠ 0) (hf1 : p.fuse ≠ 1) : writeP p n all = (((p.write (slotA n 0) (sec2 all 0)).write (slotA n 1) (sec2 all 1)).sync, 0) := by
  have w0 : p.within (slotA n 0) = true := by unfold DP.within slotA; exact decide_eq_true (by omega)
  have w1 : (p.write (slotA n 0) (sec2 all 0)).within (slotA n 1) = true := by unfold DP.within slotA; exact decide_eq_true (by show _ ∧ _ < ((p.size : Nat) : Int); omega)
  have c0 : p.wcode (slotA n 0) = 0 := by unfold DP.wcode; rw [if_pos w0, if_neg (by rw [hd]; simp [hf])]
  have d0 : p.doWrite (slotA n 0) (sec2 all 0) = p.write (slotA n 0) (sec2 all 0) := by unfold DP.doWrite; rw [if_pos w0, if_neg (by rw [hd]; simp [hf])]
  have hf2 : (p.write (slotA n 0) (sec2 all 0)).fuse ≠ 0 := by show (if 0 < p.fuse then p.fuse - 1 else p.fuse) ≠ 0; split <;> omega
  have hd2 : (p.write (slotA n 0) (sec2 all 0)).down = false := hd
  have c1 : (p.write (slotA n 0) (sec2 all 0)).wcode (slotA n 1) = 0 := by unfold DP.wcode; rw [if_pos w1, if_neg (by rw [hd2]; simp [hf2])]
  have d1 : (p.write (slotA n 0) (sec2 all 0)).doWrite (slotA n 1) (sec2 all 1) = (p.write (slotA n 0) (sec2 all 0)).write (slotA n 1) (sec2 all 1) := by unfold DP.doWrite; rw [if_pos w1, if_neg (by rw [hd2]; simp [hf2])]
  have q1 : writeQ p n all 1 = (p.write (slotA n 0) (sec2 all 0), 0) := by rw [writeQ_go rfl]; show (p.doWrite _ _, p.wcode _) = _; rw [c0, d0]
  have q2 : writeQ p n all 2 = ((p.write (slotA n 0) (sec2 all 0)).write (slotA n 1) (sec2 all 1), 0) := by rw [writeQ_go (by rw [q1]), q1]; simp only; rw [c1, d1]
  unfold writeP
  simp only [q2]
  rw [if_neg (by simp)]
  have hd3 : ((p.write (slotA n 0) (sec2 all 0)).write (slotA n 1) (sec2 all 1)).down = false := hd
  unfold DP.doSync DP.scode
  rw [hd3]
  rfl
theorem writeP_0 {p : DP} {n : Nat} {all : List Int} (hz : 4 ≤ p.size) (hf : p.fuse = 0) : writeP p n all = (p.fall, 14) := by
  have w0 : p.within (slotA n 0) = true := by unfold DP.within slotA; exact decide_eq_true (by omega)
  have c0 : p.wcode (slotA n 0) = 14 := by unfold DP.wcode; rw [if_pos w0, if_pos (.inl hf)]
  have d0 : p.doWrite (slotA n 0) (sec2 all 0) = p.fall := by unfold DP.doWrite; rw [if_pos w0, if_pos (.inl hf)]
  have q1 : writeQ p n all 1 = (p.fall, 14) := by rw [writeQ_go rfl]; show (p.doWrite _ _, p.wcode _) = _; rw [c0, d0]
  unfold writeP
  rw [writeQ_bad (by rw [q1]; simp), q1]
  rfl
theorem writeP_1 {p : DP} {n : Nat} {all : List Int} (hz : 4 ≤ p.size) (hd : p.down = false) (hf : p.fuse = 1) : writeP p n all = ((p.write (slotA n 0) (sec2 all 0)).fall, 14) := by
  have w0 : p.within (slotA n 0) = true := by unfold DP.within slotA; exact decide_eq_true (by omega)
  have w1 : (p.write (slotA n 0) (sec2 all 0)).within (slotA n 1) = true := by unfold DP.within slotA; exact decide_eq_true (by show _ ∧ _ < ((p.size : Nat) : Int); omega)
  have c0 : p.wcode (slotA n 0) = 0 := by unfold DP.wcode; rw [if_pos w0, if_neg (by rw [hd, hf]; simp)]
  have d0 : p.doWrite (slotA n 0) (sec2 all 0) = p.write (slotA n 0) (sec2 all 0) := by unfold DP.doWrite; rw [if_pos w0, if_neg (by rw [hd, hf]; simp)]
  have hf2 : (p.write (slotA n 0) (sec2 all 0)).fuse = 0 := by show (if 0 < p.fuse then p.fuse - 1 else p.fuse) = 0; rw [hf]; rfl
  have c1 : (p.write (slotA n 0) (sec2 all 0)).wcode (slotA n 1) = 14 := by unfold DP.wcode; rw [if_pos w1, if_pos (.inl hf2)]
  have d1 : (p.write (slotA n 0) (sec2 all 0)).doWrite (slotA n 1) (sec2 all 1) = (p.write (slotA n 0) (sec2 all 0)).fall := by unfold DP.doWrite; rw [if_pos w1, if_pos (.inl hf2)]
  have q1 : writeQ p n all 1 = (p.write (slotA n 0) (sec2 all 0), 0) := by rw [writeQ_go rfl]; show (p.doWrite _ _, p.wcode _) = _; rw [c0, d0]
  have q2 : writeQ p n all 2 = ((p.write (slotA n 0) (sec2 all 0)).fall, 14) := by rw [writeQ_go (by rw [q1]), q1]; simp only; rw [c1, d1]
  unfold writeP
  rw [q2]
  rfl
theorem sec2_app {all : List Int} (h : all.length = 128) : sec2 all 0 ++ sec2 all 1 = all := by
  unfold sec2
  rw [List.take_of_length_le (l := all.drop (64 * 1)) (by rw [List.length_drop]; omega)]
  simp
/-- What the slots hold behind both writes. -/
theorem slot_wrote {p q : DP} {n s : Nat} {all : List Int} (hz : 4 ≤ p.size) (hq : q.size = p.size) (hg : ∀ x, q.get x = ((p.write (slotA n 0) (sec2 all 0)).write (slotA n 1) (sec2 all 1)).get x) (hl : all.length = 128) (hs : s < 2) :
    slotB q s = if s = n % 2 then all else slotB p s := by
  rw [slotB_in hs (by omega), slotB_in hs hz, hg, hg, get_write, get_write, get_write, get_write]
  unfold slotA
  by_cases h : s = n % 2
  · rw [if_pos h, h, if_neg (by omega), if_pos (by omega), if_pos (by omega), sec2_app hl]
  · rw [if_neg h, if_neg (by omega), if_neg (by omega), if_neg (by omega), if_neg (by omega)]
theorem cutL_put64 {n : Nat} {r : Rc} (h : r.root.length = 32) : cutL (putL n r) 64 8 = beL 8 n := by
  have e : putL n r = fstL n r ++ (beL 8 n ++ (beL 8 r.limit ++ beL 8 r.session ++ recH n r ++ List.replicate 24 0)) := by simp [putL, sndL]
  rw [e]
  exact cutL_app _ _ _ (fstL_len h) (beL_len _ _)
/-- A record saved on a clean disk that holds. -/
theorem Kst.save {p : DP} {k : KR} (h : Kst p k) (hf : p.fuse ≠ 0 ∧ p.fuse ≠ 1) {r : Rc} (hr : r.Ok) (hm : k.number < 18446744073709551613) :
    if r.Right then (saveP p k r).2.2 = 0 ∧ (saveP p k r).2.1 = ⟨k.number + 1, r, false⟩ ∧ Kst (saveP p k r).1 ⟨k.number + 1, r, false⟩ ∧ (saveP p k r).1.fuse = (if 1 < p.fuse then p.fuse - 2 else p.fuse) else saveP p k r = (p, k, 2) := by
  by_cases hR : r.Right
  · rw [if_pos hR]
    have hl := putL_len (n := k.number + 1) hr.len
    have hw := writeP_ok (n := k.number + 1) (all := putL (k.number + 1) r) h.sz h.down hf.1 hf.2
    obtain ⟨q, hq⟩ : ∃ q, q = ((p.write (slotA (k.number + 1) 0) (sec2 (putL (k.number + 1) r) 0)).write (slotA (k.number + 1) 1) (sec2 (putL (k.number + 1) r) 1)).sync := ⟨_, rfl⟩
    rw [← hq] at hw
    have hs : saveP p k r = (q, ⟨k.number + 1, r, false⟩, 0) := by
      unfold saveP
      rw [if_neg (fun h => h hR), if_neg (by rw [h.nb]; simp), if_neg (by omega), hw]
      simp [h.nb]
    rw [hs]
    have hqz : q.size = p.size := by rw [hq]; rfl
    have hg : ∀ x, q.get x = ((p.write (slotA (k.number + 1) 0) (sec2 (putL (k.number + 1) r) 0)).write (slotA (k.number + 1) 1) (sec2 (putL (k.number + 1) r) 1)).get x := fun x => by rw [hq, get_sync]
    have hsl := fun s hs => slot_wrote (s := s) h.sz hqz hg hl hs
    have a0 : 0 ≤ slotA (k.number + 1) 0 ∧ slotA (k.number + 1) 0 < p.size := by have := h.sz; unfold slotA; omega
    have a1 : 0 ≤ slotA (k.number + 1) 1 ∧ slotA (k.number + 1) 1 < p.size := by have := h.sz; unfold slotA; omega
    have o0 := sec2_ok (i := 0) hl (putL_byt hr.byt) (by omega)
    have o1 := sec2_ok (i := 1) hl (putL_byt hr.byt) (by omega)
    refine ⟨rfl, rfl, ?_, ?_⟩
    · exact {
        nb := rfl
        z := fun h0 => absurd h0 (by show ¬ (k.number + 1 = 0); omega)
        nz := fun _ => by
          refine ⟨?_, hr, hR, ?_⟩
          · show slotB q ((k.number + 1) % 2) = putL (k.number + 1) r
            rw [hsl _ (by omega), if_pos rfl]
          · show getN ((k.number + 1 + 1) % 2) (slotB q ((k.number + 1 + 1) % 2)) < k.number + 1
            rw [hsl _ (by omega), if_neg (by omega), show (k.number + 1 + 1) % 2 = k.number % 2 by omega]
            by_cases h0 : k.number = 0
            · obtain ⟨-, g0, g1⟩ := h.z h0
              rw [h0]
              show getN 0 (slotB p 0) < 1
              omega
            · obtain ⟨g1, g2, g3, -⟩ := h.nz (by omega)
              rw [g1, (getN_put g2 (by omega) rfl g3).1]
              omega
        lt := by show k.number + 1 < _; omega
        ok := by rw [hq]; exact ((h.ok.write a0 o0).write (p := p.write _ _) a1 o1).sync
        sz := by show 4 ≤ q.size; rw [hqz]; exact h.sz
        clean := by rw [hq]; rfl
        down := by rw [hq]; exact h.down
        snd := fun s hs => by
          show ∃ j, j ≤ k.number + 1 ∧ _
          rw [hsl s hs]
          by_cases he : s = (k.number + 1) % 2
          · rw [if_pos he]; exact ⟨k.number + 1, Nat.le_refl _, cutL_put64 hr.len⟩
          · rw [if_neg he]
            obtain ⟨j, h1, h2⟩ := h.snd s hs
            exact ⟨j, by omega, h2⟩ }
    · show q.fuse = _
      have e : q.fuse = (if 0 < (if 0 < p.fuse then p.fuse - 1 else p.fuse) then (if 0 < p.fuse then p.fuse - 1 else p.fuse) - 1 else (if 0 < p.fuse then p.fuse - 1 else p.fuse)) := by rw [hq]; rfl
      rw [e]
      have := hf.1
      have := hf.2
      split <;> split <;> (try split) <;> omega
  · rw [if_neg hR]
    unfold saveP
    rw [if_pos hR]
/-- What opens does not change by a power cut where nothing waits. -/
theorem cut_clean {p : DP} (hc : p.order = []) (hfr : ∀ x, p.fresh x = none) (keep : List Bool) (x : Int) : (p.cut keep).get x = p.get x := by
  unfold DP.get DP.cut
  simp only [hc, hfr]
  rfl
theorem Kop.of_slots {p q : DP} {k : KR} (h : Kop p k) (h0 : slotB q 0 = slotB p 0) (h1 : slotB q 1 = slotB p 1) : Kop q k := by
  have hs : ∀ s, s < 2 → slotB q s = slotB p s := fun s hs => by rcases (show s = 0 ∨ s = 1 by omega) with rfl | rfl <;> assumption
  refine ⟨h.nb, fun h' => by rw [h0, h1]; exact h.z h', fun h' => ?_, h.lt⟩
  rw [hs _ (by omega), hs _ (by omega)]
  exact h.nz h'
theorem Kst.keeps {p : DP} {k : KR} (h : Kst p k) {f : Int} (h0 : 0 ≤ f) (h3 : f ≤ 3) {r : Rc} (hr : r.Ok) (hm : k.number < 18446744073709551613) (keep : List Bool) :
    openP ((saveP (p.fused f) k r).1.cut keep) = if (saveP (p.fused f) k r).2.2 = 0 then ⟨k.number + 1, r, false⟩ else k := by
  have hfr := h.fresh
  have hpz : (p.fused f).fuse = f := by show max f (-1) = f; omega
  have hst : Kst (p.fused f) k := {
    nb := h.nb, z := h.z, nz := h.nz, lt := h.lt, ok := ⟨h.ok.s1, h.ok.s2, h.ok.sureR, h.ok.freshR, h.ok.nod, h.ok.ord, by show -1 ≤ max f (-1) ∧ max f (-1) ≤ _; omega⟩, sz := h.sz, clean := h.clean, down := h.down, snd := h.snd }
  obtain ⟨p', hp'⟩ : ∃ p', p' = p.fused f := ⟨_, rfl⟩
  rw [← hp'] at hst hpz ⊢
  have hfr' : ∀ x, p'.fresh x = none := hst.fresh
  by_cases hR : r.Right
  · by_cases hf : f = 0
    · have hs : saveP p' k r = (p'.fall, { k with broken := true }, 14) := by
        unfold saveP
        rw [if_neg (fun h => h hR), if_neg (by rw [h.nb]; simp), if_neg (by omega), writeP_0 hst.sz (by rw [hpz, hf])]
        rfl
      rw [hs]
      simp only
      rw [if_neg (by decide)]
      have hg : ∀ x, (p'.fall.cut keep).get x = p'.get x := fun x => by rw [cut_clean (p := p'.fall) hst.clean hfr']; rfl
      exact (hst.toKop.of_slots (slot_all 0 hg rfl) (slot_all 1 hg rfl)).opens
    · by_cases hf1 : f = 1
      · have hs : saveP p' k r = ((p'.write (slotA (k.number + 1) 0) (sec2 (putL (k.number + 1) r) 0)).fall, { k with broken := true }, 14) := by
          unfold saveP
          rw [if_neg (fun h => h hR), if_neg (by rw [h.nb]; simp), if_neg (by omega), writeP_1 hst.sz hst.down (by rw [hpz, hf1])]
          rfl
        rw [hs]
        simp only
        rw [if_neg (by decide)]
        obtain ⟨A, hA⟩ : ∃ A, A = sec2 (putL (k.number + 1) r) 0 := ⟨_, rfl⟩
        rw [← hA]
        obtain ⟨q, hq⟩ : ∃ q, q = ((p'.write (slotA (k.number + 1) 0) A).fall.cut keep) := ⟨_, rfl⟩
        rw [← hq]
        have hqz : q.size = p'.size := by rw [hq]; rfl
        have hord : (p'.write (slotA (k.number + 1) 0) A).fall.order = [slotA (k.number + 1) 0] := by
          show (if p'.fresh (slotA (k.number + 1) 0) = none then p'.order ++ [slotA (k.number + 1) 0] else p'.order) = _
          rw [if_pos (hfr' _), hst.clean]
          rfl
        have hgx : ∀ x, q.get x = if keep.getD 0 false = true ∧ x = slotA (k.number + 1) 0 then A else p'.get x := fun x => by
          have e : q.get x = (cutS (p'.write (slotA (k.number + 1) 0) A).fall keep 1 x).getD sec0 := by
            rw [hq]
            show ((cutS (p'.write (slotA (k.number + 1) 0) A).fall keep (p'.write (slotA (k.number + 1) 0) A).fall.order.length x).getD sec0) = _
            rw [hord]
            rfl
          rw [e]
          simp only [cutS]
          by_cases hk : keep.getD 0 false = true
          · rw [if_pos hk, hord]
            by_cases hx : x = slotA (k.number + 1) 0
            · rw [if_pos ⟨hk, hx⟩]
              simp [upd, hx, DP.fall, DP.write, DP.put]
            · rw [if_neg (fun h => hx h.2)]
              simp only [upd, List.getD_cons_zero, if_neg hx]
              simp [DP.get, hfr', DP.fall, DP.write, DP.put, DP.burn]
          · rw [if_neg hk, if_neg (fun h => hk h.1)]
            simp [DP.get, hfr', DP.fall, DP.write, DP.put, DP.burn]
        have hoth : ∀ s, s < 2 → s ≠ (k.number + 1) % 2 → slotB q s = slotB p' s := fun s hs he =>
          slotB_congr hqz (by rw [hgx, if_neg (fun h => by have := h.2; unfold slotA at this; omega)]) (by rw [hgx, if_neg (fun h => by have := h.2; unfold slotA at this; omega)])
        have hown : getN ((k.number + 1) % 2) (slotB q ((k.number + 1) % 2)) ≤ k.number ∧ (k.number = 0 → getN ((k.number + 1) % 2) (slotB q ((k.number + 1) % 2)) = 0) ∧ (0 < k.number → getN ((k.number + 1) % 2) (slotB q ((k.number + 1) % 2)) < k.number) := by
          by_cases hk : keep.getD 0 false = true
          · have e0 : getN ((k.number + 1) % 2) (slotB q ((k.number + 1) % 2)) = 0 := by
              have hsl : slotB q ((k.number + 1) % 2) = A ++ p'.get ((2 * ((k.number + 1) % 2) + 1 : Nat) : Int) := by
                rw [slotB_in (by omega) (by rw [hqz]; exact hst.sz), hgx, hgx, if_pos ⟨hk, by unfold slotA; omega⟩, if_neg (fun h => by have := h.2; unfold slotA at this; omega)]
              have hAl : A.length = 64 := by rw [hA]; exact (sec2_ok (putL_len hr.len) (putL_byt hr.byt) (by omega)).1
              have hnum : numOf (slotB q ((k.number + 1) % 2)) = k.number + 1 := by
                have e : numOf (slotB q ((k.number + 1) % 2)) = numOf (putL (k.number + 1) r) := by
                  unfold numOf cutL
                  rw [hsl, List.drop_zero, List.drop_zero, List.take_append_of_le_length (by omega), hA]
                  unfold sec2
                  rw [Nat.mul_zero, List.drop_zero, List.take_take]
                  rfl
                rw [e, numOf_put (by omega)]
              have h64 : cutL (slotB q ((k.number + 1) % 2)) 64 8 = cutL (slotB p' ((k.number + 1) % 2)) 64 8 := by
                have h1 := (hst.ok.get ((2 * ((k.number + 1) % 2) : Nat) : Int)).1
                rw [hsl, slotB_in (by omega) hst.sz]
                unfold cutL
                have e1 : (A ++ p'.get ((2 * ((k.number + 1) % 2) + 1 : Nat) : Int)).drop 64 = p'.get ((2 * ((k.number + 1) % 2) + 1 : Nat) : Int) := by rw [← hAl]; exact List.drop_left
                have e2 : (p'.get ((2 * ((k.number + 1) % 2) : Nat) : Int) ++ p'.get ((2 * ((k.number + 1) % 2) + 1 : Nat) : Int)).drop 64 = p'.get ((2 * ((k.number + 1) % 2) + 1 : Nat) : Int) := by rw [← h1]; exact List.drop_left
                rw [e1, e2]
              unfold getN
              rw [if_neg]
              rintro ⟨hp, -, -⟩
              rw [hnum] at hp
              have hlen : (slotB q ((k.number + 1) % 2)).length = 128 := by
                rw [hsl, List.length_append, hAl, (hst.ok.get _).1]
              have h5 := cutL_put64 (n := k.number + 1) (r := rcOf (slotB q ((k.number + 1) % 2))) (cutL_len (by omega))
              rw [hp, h64] at h5
              obtain ⟨j, hj1, hj2⟩ := hst.snd ((k.number + 1) % 2) (by omega)
              rw [hj2] at h5
              have := beL_inj (by omega) (by omega) h5
              omega
            exact ⟨by omega, fun _ => e0, fun _ => by omega⟩
          · have hsame : slotB q ((k.number + 1) % 2) = slotB p' ((k.number + 1) % 2) :=
              slotB_congr hqz (by rw [hgx, if_neg (fun h => hk h.1)]) (by rw [hgx, if_neg (fun h => hk h.1)])
            rw [hsame]
            by_cases hz : k.number = 0
            · obtain ⟨-, z0, z1⟩ := hst.z hz
              rw [hz]
              have z1' : getN ((0 + 1) % 2) (slotB p' ((0 + 1) % 2)) = 0 := z1
              exact ⟨by omega, fun _ => z1', fun h => by omega⟩
            · obtain ⟨-, -, -, n4⟩ := hst.nz (by omega)
              exact ⟨by omega, fun h => by omega, fun _ => n4⟩
        refine Kop.opens ⟨h.nb, fun hz => ⟨(hst.z hz).1, ?_, ?_⟩, fun hnz => ⟨?_, (hst.nz hnz).2.1, (hst.nz hnz).2.2.1, hown.2.2 hnz⟩, h.lt⟩
        · rw [hoth 0 (by omega) (by rw [hz]; decide)]; exact (hst.z hz).2.1
        · have := hown.2.1 hz
          rw [hz] at this
          exact this
        · rw [hoth _ (by omega) (by omega)]; exact (hst.nz hnz).1
      · have hsv := hst.save ⟨by omega, by omega⟩ hr hm
        rw [if_pos hR] at hsv
        obtain ⟨s1, s2, s3, -⟩ := hsv
        rw [if_pos s1]
        have hg : ∀ x, ((saveP p' k r).1.cut keep).get x = (saveP p' k r).1.get x := fun x => cut_clean s3.clean s3.fresh keep x
        exact (s3.toKop.of_slots (slot_all 0 hg rfl) (slot_all 1 hg rfl)).opens
  · have hs : saveP p' k r = (p', k, 2) := by unfold saveP; rw [if_pos hR]
    rw [hs]
    simp only
    rw [if_neg (by decide)]
    have hg : ∀ x, (p'.cut keep).get x = p'.get x := fun x => cut_clean hst.clean hfr' keep x
    exact (hst.toKop.of_slots (slot_all 0 hg rfl) (slot_all 1 hg rfl)).opens
end Go.Proofs.YtdojmjglnlkmoaaDoor
/- Two sectors put together, and compared. No condition. -/
namespace Go.Proofs.YtdojmjglnlkmoaaDoor
set_option linter.unusedVariables false
set_option linter.unusedSimpArgs false
set_option linter.constructorNameAsVariable false
open Go.RowKit Go.Sort

theorem built_arr2 {P : Program} {t e n m : Nat} {zs xs ys : List Value} (hu : P.underlying t = some (.array n e)) (hi : (P.info? t).map (fun i => (i.zero, i.size)) = some (some (.agg zs.toArray), m)) (he : (P.info? e).map (·.size) = some xs.length) (hxy : ys.length = xs.length) (hl : 2 * xs.length ≤ zs.length) :
    P.built t [(0, .agg xs.toArray), (1, .agg ys.toArray)] = some (splice (splice zs 0 xs) xs.length ys).toArray := by
  unfold Program.built
  cases hq : P.info? t with
  | none => simp [hq] at hi
  | some it =>
    cases hqe : P.info? e with
    | none => simp [hqe] at he
    | some ie =>
      have h1 : it.zero = some (.agg zs.toArray) := by
        rw [hq] at hi
        exact congrArg Prod.fst (Option.some.inj hi)
      have h2 : ie.size = xs.length := by simpa [hqe] using he
      simp only [hu, h1, hqe, h2, Value.cells]
      rw [fill_one (off := 0) (ys := xs) (by simp) rfl (by omega), fill_one (off := xs.length) (ys := ys) (by simp [hxy]) rfl (by simp [splice]; omega)]
      rfl
theorem built_two {a b : List Int} (ha : a.length = 64) (hb : b.length = 64) : Tryd.prog.built 97 [(0, .agg (secA a)), (1, .agg (secA b))] = some (secA (a ++ b)) := by
  have h := built_arr2 (P := Tryd.prog) (xs := u8s a) (ys := u8s b) (zs := u8s (List.replicate 128 0)) (n := 2) (e := 23) Tryd.underlying97 twoInfo (by rw [u8s_len, ha]; kernel_rfl) (by rw [u8s_len, u8s_len, ha, hb]) (by rw [u8s_len, u8s_len, ha, List.length_replicate]; omega)
  have e : splice (splice (u8s (List.replicate 128 0)) 0 (u8s a)) (u8s a).length (u8s b) = u8s (a ++ b) := by
    have e1 : u8s (List.replicate 128 0) = u8s (List.replicate 64 0) ++ u8s (List.replicate 64 0) := by unfold u8s; rw [← List.map_append, List.replicate_append_replicate]
    rw [e1, splice_fst (by rw [u8s_len, u8s_len, ha, List.length_replicate])]
    have := splice_app (a := u8s a) (b := u8s (List.replicate 64 0)) (ys := u8s b) (o := (u8s a).length) (k := 0) rfl
    rw [Nat.add_zero] at this
    rw [this]
    have h2 := splice_fst (a := u8s (List.replicate 64 0)) (b := []) (ys := u8s b) (by rw [u8s_len, u8s_len, hb, List.length_replicate])
    rw [List.append_nil, List.append_nil] at h2
    rw [h2]
    unfold u8s
    rw [List.map_append]
  rw [e] at h
  exact h
theorem item_sec {x : List Int} (hx : x.length = 128) (i : Nat) (hi : i < 2) (w : World) : (part 23 (secA x) (i * 64)).run Tryd.prog w = .ok (.agg (secA ((x.drop (64 * i)).take 64))) w := by
  have h1 : (isAgg 23).run Tryd.prog w = .ok true w := by simp [isAgg, run_underlying Tryd.underlying23]
  have h2 : (sizeOf 23).run Tryd.prog w = .ok 64 w := by
    have := secInfo
    cases hq : Tryd.prog.info? 23 with
    | none => rw [hq] at this; cases this
    | some i => rw [hq] at this; simp only [Option.map_some, Option.some.injEq, Prod.mk.injEq] at this; simp [sizeOf, typeInfo, hq, this.2]
  have e : (secA x).extract (i * 64) (i * 64 + 64) = secA ((x.drop (64 * i)).take 64) := by
    unfold secA u8s
    rw [List.extract_toArray, List.extract_eq_take_drop, Nat.add_sub_cancel_left, Nat.mul_comm, ← List.map_drop, ← List.map_take]
  unfold part
  simp [Sem.run_bind, h1, h2, e]
theorem item_step {P : Program} {d c i : Nat} {e : TypeId} {xs ys : Array Value} {is : List Nat} {w : World} {a b : Value} {r s : Bool} (ha : (part e xs (i * c)).run P w = .ok a w) (hb : (part e ys (i * c)).run P w = .ok b w)
    (hr : (Op.equalIn d e a b).run P w = .ok r w) (hs : (Op.eqItems d e c xs ys is).run P w = .ok s w) : (Op.eqItems d e c xs ys (i :: is)).run P w = .ok (r && s) w := by
  simp only [Op.eqItems, Sem.run_bind, ha, hb, hr, Result.andThen_ok, Sem.run_ite]
  cases r
  · simp
  · simpa using hs
theorem item_nil {P : Program} {d c : Nat} {e : TypeId} {xs ys : Array Value} {w : World} : (Op.eqItems d e c xs ys []).run P w = .ok true w := by simp [Op.eqItems]
theorem two_eq {x y : List Int} (hx : x.length = 128) (hy : y.length = 128) : decide (x = y) = (decide ((x.drop (64 * 0)).take 64 = (y.drop (64 * 0)).take 64) && decide ((x.drop (64 * 1)).take 64 = (y.drop (64 * 1)).take 64)) := by
  have e : x = y ↔ (x.drop (64 * 0)).take 64 = (y.drop (64 * 0)).take 64 ∧ (x.drop (64 * 1)).take 64 = (y.drop (64 * 1)).take 64 := by
    constructor
    · rintro rfl; exact ⟨rfl, rfl⟩
    · rintro ⟨h1, h2⟩
      have e1 := sec2_app hx
      have e2 := sec2_app hy
      unfold sec2 at e1 e2
      rw [← e1, ← e2, h1, h2]
  rw [Bool.eq_iff_iff, Bool.and_eq_true, decide_eq_true_eq, decide_eq_true_eq, decide_eq_true_eq]
  exact e
theorem equalIn_two (d : Nat) {x y : List Int} (hx : x.length = 128) (hy : y.length = 128) (bx : Byt x) (hb : Byt y) (w : World) : (Op.equalIn (d + 2 + 1) 97 (.agg (secA x)) (.agg (secA y))).run Tryd.prog w = .ok (decide (x = y)) w := by
  obtain ⟨i0, hi0⟩ : ∃ i0, Tryd.prog.info? 23 = some i0 := by
    cases hq : Tryd.prog.info? 23 with
    | none => have := secInfo; rw [hq] at this; cases this
    | some i => exact ⟨i, rfl⟩
  have hc : Tryd.prog.cellsOf 23 = 64 := by kernel_rfl
  have hz : ∀ w, (sizeOf 5).run Tryd.prog w = .ok 1 w := fun w => (by first | exact Tryd.sizeOf5 w | kernel_rfl)
  have hs : ∀ i, i < 2 → (Op.equalIn (d + 2) 23 (.agg (secA ((x.drop (64 * i)).take 64))) (.agg (secA ((y.drop (64 * i)).take 64)))).run Tryd.prog w = .ok (decide ((x.drop (64 * i)).take 64 = (y.drop (64 * i)).take 64)) w := fun i hi =>
    run_equalIn_sec (P := Tryd.prog) d Tryd.underlying23 Tryd.underlying5 hz (by rw [List.length_take, List.length_drop]; omega) (by rw [List.length_take, List.length_drop]; omega) (fun z hz => bx z (List.mem_of_mem_drop (List.mem_of_mem_take hz))) (fun z hz => hb z (List.mem_of_mem_drop (List.mem_of_mem_take hz))) w
  rw [run_equalIn_array (P := Tryd.prog) (w := w) (d + 2) (secA x) (secA y) Tryd.underlying97 hi0, hc, two_eq hx hy]
  have hr : List.range 2 = [0, 1] := rfl
  have h0 := hs 0 (by omega)
  have h1 := hs 1 (by omega)
  generalize decide ((x.drop (64 * 0)).take 64 = (y.drop (64 * 0)).take 64) = r0 at h0 ⊢
  generalize decide ((x.drop (64 * 1)).take 64 = (y.drop (64 * 1)).take 64) = r1 at h1 ⊢
  rw [hr, ← Bool.and_true r1]
  exact item_step (item_sec hx 0 (by omega) w) (item_sec hy 0 (by omega) w) h0 (item_step (item_sec hx 1 (by omega) w) (item_sec hy 1 (by omega) w) h1 item_nil)
set_option maxRecDepth 100000 in
theorem eql_two {x y : List Int} (hx : x.length = 128) (hy : y.length = 128) (bx : Byt x) (hb : Byt y) (w : World) : (binOp .eql 97 (.agg (secA x)) (.agg (secA y))).run Tryd.prog w = .ok (.bool (decide (x = y))) w := by
  have h := equalIn_two 9997 hx hy bx hb w
  rw [run_eql_struct]
  have h2 : (Op.equalIn 10000 97 (.agg (secA x)) (.agg (secA y))).run Tryd.prog w = .ok (decide (x = y)) w := h
  rw [h2]
  rfl
end Go.Proofs.YtdojmjglnlkmoaaDoor
/- The reference's disk: lists of sectors, in plain words and in memory; how it goes with the disk. No condition. -/
namespace Go.Proofs.YtdojmjglnlkmoaaDoor
set_option linter.unusedVariables false
set_option linter.unusedSimpArgs false
set_option linter.constructorNameAsVariable false
open Go.RowKit Go.Maps

theorem snoc_ind {α : Type} {P : List α → Prop} (h0 : P []) (h1 : ∀ l a, P l → P (l ++ [a])) (l : List α) : P l := by
  have key : ∀ l : List α, P l.reverse := by
    intro l
    induction l with
    | nil => exact h0
    | cons a l ih => rw [List.reverse_cons]; exact h1 _ _ ih
  have := key l.reverse
  rwa [List.reverse_reverse] at this
/-- A sector that was put. -/
structure PU where
  pos : Int
  s : List Int
def PU.cells (x : PU) : List Value := .int .i64 x.pos :: u8s x.s
theorem PU.len {x : PU} (h : SecOk x.s) : x.cells.length = 65 := by simp [PU.cells, u8s_len, h.1]
theorem PU.one (x : PU) : ∀ u ∈ x.cells, u.oneCell' = true := by
  intro u hu
  rcases List.mem_cons.1 hu with rfl | hu
  · rfl
  · exact u8s_one _ u hu
def flatP (L : List PU) : List Value := L.flatMap PU.cells
theorem flatP_app (L M : List PU) : flatP (L ++ M) = flatP L ++ flatP M := by simp [flatP]
theorem flatP_one (x : PU) : flatP [x] = x.cells := by simp [flatP]
theorem flatP_cell (L : List PU) : ∀ u ∈ flatP L, u.oneCell' = true := by
  intro u hu
  obtain ⟨x, _, hx⟩ := List.mem_flatMap.1 hu
  exact x.one u hx

/-- The last one of a place. -/
def lastP (L : List PU) (x : Int) : Option (List Int) := L.foldl (fun acc p => if p.pos = x then some p.s else acc) none
theorem lastP_snoc (L : List PU) (p : PU) (x : Int) : lastP (L ++ [p]) x = if p.pos = x then some p.s else lastP L x := by simp [lastP, List.foldl_append]
theorem lastP_app (L M : List PU) (x : Int) : lastP (L ++ M) x = match lastP M x with | some s => some s | none => lastP L x := by
  induction M using snoc_ind with
  | h0 => simp [lastP]
  | h1 M p ih =>
    rw [← List.append_assoc, lastP_snoc, lastP_snoc, ih]
    split <;> rfl
theorem lastP_none {L : List PU} {x : Int} : lastP L x = none ↔ x ∉ L.map PU.pos := by
  induction L using snoc_ind with
  | h0 => simp [lastP]
  | h1 L p ih =>
    rw [lastP_snoc]
    split
    · next h => subst h; simp
    · next h => rw [ih]; simp; intro _ e; exact absurd e.symm h
theorem lastP_mem {L : List PU} {x : Int} {s : List Int} (h : lastP L x = some s) : ∃ p ∈ L, p.pos = x ∧ p.s = s := by
  induction L using snoc_ind with
  | h0 => simp [lastP] at h
  | h1 L p ih =>
    rw [lastP_snoc] at h
    split at h
    · next e => injection h with h; exact ⟨p, by simp, e, h⟩
    · obtain ⟨q, hq, h1, h2⟩ := ih h
      exact ⟨q, by simp [hq], h1, h2⟩
/-- The places that wait. -/
def waits (L : List PU) : List Int := L.foldl (fun acc p => if p.pos ∈ acc then acc else acc ++ [p.pos]) []
theorem waits_snoc (L : List PU) (p : PU) : waits (L ++ [p]) = if p.pos ∈ waits L then waits L else waits L ++ [p.pos] := by unfold waits; rw [List.foldl_append]; rfl
theorem mem_waits (L : List PU) : ∀ x : Int, x ∈ waits L ↔ x ∈ L.map PU.pos := by
  induction L using snoc_ind with
  | h0 => simp [waits]
  | h1 L p ih' =>
    intro x
    rw [waits_snoc]
    split
    · next h =>
      have h' := (ih' p.pos).1 h
      rw [ih']
      simp only [List.map_append, List.map_cons, List.map_nil, List.mem_append, List.mem_singleton]
      exact ⟨.inl, fun hx => hx.elim id fun e => e ▸ h'⟩
    · rw [List.mem_append, ih' x]; simp
theorem waits_len (L : List PU) : (waits L).length ≤ L.length := by
  induction L using snoc_ind with
  | h0 => simp [waits]
  | h1 L p ih =>
    rw [waits_snoc]
    split <;> simp <;> omega

/-- The reference's disk. -/
structure RP where
  size : Int
  sure : List PU
  fresh : List PU
  fuse : Int
  down : Bool
def RP.new (n : Int) : RP := ⟨n, [], [], -1, false⟩
def RP.burn (r : RP) : RP := { r with fuse := if 0 < r.fuse then r.fuse - 1 else r.fuse }
def RP.within (r : RP) (a : Int) : Bool := decide (0 ≤ a ∧ a < r.size)
def RP.wcode (r : RP) (a : Int) : Int := if r.within a = true then (if r.fuse = 0 ∨ r.down = true then 14 else 0) else 1
def RP.write (r : RP) (a : Int) (s : List Int) : RP := if r.within a = true then (if r.fuse = 0 ∨ r.down = true then { r with down := true } else { r.burn with fresh := r.fresh ++ [⟨a, s⟩] }) else r
def RP.scode (r : RP) : Int := if r.down = true then 14 else 0
def RP.sync (r : RP) : RP := if r.down = true then r else { r with sure := r.sure ++ r.fresh, fresh := [] }
def RP.rcode (r : RP) (a : Int) : Int := if r.within a = true then 0 else 1
def RP.rget (r : RP) (a : Int) : List Int := if r.within a = true then (match lastP r.fresh a with | some s => s | none => (lastP r.sure a).getD sec0) else sec0
def cutR (r : RP) (keep : List Bool) : Nat → List PU
  | 0 => r.sure
  | j + 1 => if keep.getD j false = true then cutR r keep j ++ [⟨(waits r.fresh).getD j 0, (lastP r.fresh ((waits r.fresh).getD j 0)).getD sec0⟩] else cutR r keep j
def RP.cut (r : RP) (keep : List Bool) : RP := ⟨r.size, cutR r keep (waits r.fresh).length, [], -1, false⟩
def RP.fused (r : RP) (a : Int) : RP := { r with fuse := max a (-1) }
def RP.Ok (r : RP) : Prop := (∀ x ∈ r.sure, SecOk x.s) ∧ ∀ x ∈ r.fresh, SecOk x.s
def RP.tot (r : RP) : Nat := r.sure.length + r.fresh.length

/-- The disk and the reference's. -/
structure Mt (p : DP) (r : RP) : Prop where
  size : r.size = p.size
  sure : ∀ x, p.sure x = lastP r.sure x
  fresh : ∀ x, p.fresh x = lastP r.fresh x
  order : p.order = waits r.fresh
  fuse : r.fuse = p.fuse
  down : r.down = p.down
theorem Mt.new (n : Nat) : Mt (DP.new n) (RP.new n) := ⟨rfl, fun _ => rfl, fun _ => rfl, rfl, rfl, rfl⟩
section
variable {p : DP} {r : RP}
theorem Mt.within (h : Mt p r) (a : Int) : r.within a = p.within a := by unfold RP.within DP.within; rw [h.size]
theorem Mt.wcode (h : Mt p r) (a : Int) : r.wcode a = p.wcode a := by unfold RP.wcode DP.wcode; rw [h.within, h.fuse, h.down]
theorem Mt.scode (h : Mt p r) : r.scode = p.scode := by unfold RP.scode DP.scode; rw [h.down]
theorem Mt.rcode (h : Mt p r) (a : Int) : r.rcode a = p.rcode a := by unfold RP.rcode DP.rcode; rw [h.within]
theorem Mt.rget (h : Mt p r) (a : Int) : r.rget a = p.rget a := by
  unfold RP.rget DP.rget DP.get
  rw [h.within, h.fresh a, h.sure a]
  rfl
theorem Mt.write (h : Mt p r) (a : Int) (s : List Int) : Mt (p.doWrite a s) (r.write a s) := by
  unfold DP.doWrite RP.write
  rw [h.within, h.fuse, h.down]
  split
  · split
    · exact ⟨h.size, h.sure, h.fresh, h.order, rfl, rfl⟩
    · refine ⟨h.size, h.sure, ?_, ?_, ?_, h.down⟩
      · intro x
        show upd p.fresh a (some s) x = lastP (r.fresh ++ [⟨a, s⟩]) x
        rw [lastP_snoc, upd, ← h.fresh x]
        by_cases e : x = a
        · subst e; simp
        · rw [if_neg e, if_neg (fun e' => e e'.symm)]
      · show (if p.fresh a = none then p.order ++ [a] else p.order) = waits (r.fresh ++ [⟨a, s⟩])
        rw [waits_snoc, h.order, h.fresh a]
        by_cases e : a ∈ waits r.fresh
        · rw [if_pos e, if_neg (fun e' => lastP_none.1 e' ((mem_waits _ _).1 e))]
        · rw [if_neg e, if_pos (lastP_none.2 fun e' => e ((mem_waits _ _).2 e'))]
      · show (if 0 < r.fuse then r.fuse - 1 else r.fuse) = if 0 < p.fuse then p.fuse - 1 else p.fuse
        rw [h.fuse]
  · exact h
theorem Mt.sync (h : Mt p r) : Mt p.doSync r.sync := by
  unfold DP.doSync RP.sync
  rw [h.down]
  split
  · exact h
  · refine ⟨h.size, ?_, fun _ => rfl, rfl, h.fuse, rfl⟩
    intro x
    show (match p.fresh x with | some s => some s | none => p.sure x) = lastP (r.sure ++ r.fresh) x
    rw [lastP_app, h.fresh x, h.sure x]
theorem Mt.cutS (h : Mt p r) (hok : p.Ok) (keep : List Bool) : ∀ j, j ≤ p.order.length → ∀ x, Go.Proofs.YtdojmjglnlkmoaaDoor.cutS p keep j x = lastP (cutR r keep j) x
  | 0, _, x => h.sure x
  | j + 1, hj, x => by
    simp only [Go.Proofs.YtdojmjglnlkmoaaDoor.cutS, cutR]
    split
    · rw [lastP_snoc, upd, ← h.order]
      have hlt : j < p.order.length := by omega
      have ha : p.order.getD j 0 ∈ p.order := by rw [List.getD_eq_getElem?_getD, List.getElem?_eq_getElem hlt]; exact List.getElem_mem _
      by_cases e : x = p.order.getD j 0
      · rw [if_pos e, if_pos e.symm, h.fresh]
        cases hf : lastP r.fresh (p.order.getD j 0) with
        | some s => rfl
        | none => exact absurd ((h.fresh _).trans hf) ((hok.ord _).1 ha)
      · rw [if_neg e, if_neg (fun e' => e e'.symm)]
        exact h.cutS hok keep j (by omega) x
    · exact h.cutS hok keep j (by omega) x
theorem Mt.cut (h : Mt p r) (hok : p.Ok) (keep : List Bool) : Mt (p.cut keep) (r.cut keep) :=
  ⟨h.size, fun x => by
    show Go.Proofs.YtdojmjglnlkmoaaDoor.cutS p keep p.order.length x = lastP (cutR r keep (waits r.fresh).length) x
    rw [← h.order]
    exact h.cutS hok keep _ (Nat.le_refl _) x, fun _ => rfl, rfl, rfl, rfl⟩
theorem Mt.fused (h : Mt p r) (a : Int) : Mt (p.fused a) (r.fused a) := ⟨h.size, h.sure, h.fresh, h.order, rfl, h.down⟩
theorem RP.Ok.write (h : r.Ok) (a : Int) {s : List Int} (hs : SecOk s) : (r.write a s).Ok := by
  unfold RP.write
  split
  · split
    · exact h
    · refine ⟨h.1, fun x hx => ?_⟩
      rcases List.mem_append.1 hx with hx | hx
      · exact h.2 x hx
      · obtain rfl := List.mem_singleton.1 hx; exact hs
  · exact h
theorem RP.Ok.sync (h : r.Ok) : r.sync.Ok := by
  unfold RP.sync
  split
  · exact h
  · refine ⟨fun x hx => ?_, by simp⟩
    rcases List.mem_append.1 hx with hx | hx
    · exact h.1 x hx
    · exact h.2 x hx
theorem lastP_ok {L : List PU} (h : ∀ x ∈ L, SecOk x.s) (x : Int) : SecOk ((lastP L x).getD sec0) := by
  cases hl : lastP L x with
  | none => exact sec0_ok
  | some s => obtain ⟨q, hq, _, e⟩ := lastP_mem hl; rw [← e]; exact h q hq
theorem cutR_ok (h : r.Ok) (keep : List Bool) : ∀ j, ∀ x ∈ cutR r keep j, SecOk x.s
  | 0 => h.1
  | j + 1 => by
    intro x hx
    simp only [cutR] at hx
    split at hx
    · rcases List.mem_append.1 hx with hx | hx
      · exact cutR_ok h keep j x hx
      · obtain rfl := List.mem_singleton.1 hx; exact lastP_ok h.2 _
    · exact cutR_ok h keep j x hx
theorem RP.Ok.cut (h : r.Ok) (keep : List Bool) : (r.cut keep).Ok := ⟨cutR_ok h keep _, by simp [RP.cut]⟩
theorem cutR_len (r : RP) (keep : List Bool) : ∀ j, (cutR r keep j).length ≤ r.sure.length + j
  | 0 => Nat.le_refl _
  | j + 1 => by
    have := cutR_len r keep j
    simp only [cutR]
    split <;> simp <;> omega
theorem RP.tot_write (r : RP) (a : Int) (s : List Int) : (r.write a s).tot ≤ r.tot + 1 := by
  unfold RP.write RP.tot
  split
  · split
    · simp
    · simp [RP.burn]; omega
  · omega
theorem RP.tot_sync (r : RP) : r.sync.tot ≤ r.tot := by
  unfold RP.sync RP.tot
  split <;> simp
theorem RP.tot_cut (r : RP) (keep : List Bool) : (r.cut keep).tot ≤ r.tot := by
  have h1 := cutR_len r keep (waits r.fresh).length
  have h2 := waits_len r.fresh
  simp only [RP.tot, RP.cut, List.length_nil]
  omega
theorem RP.Ok.rget (h : r.Ok) (a : Int) : SecOk (r.rget a) := by
  unfold RP.rget
  split
  · cases hl : lastP r.fresh a with
    | some s => obtain ⟨q, hq, _, e⟩ := lastP_mem hl; rw [← e]; exact h.2 q hq
    | none => exact lastP_ok h.1 a
  · exact sec0_ok
end

theorem dk_not {w : World} {base g bs bf : Nat} {v : Value} {p : DP} (h : Dk w base g bs bf v p) : ∀ k, DkOurs g bs bf v k → ¬ IsT 87 w k := by
  rintro k (rfl | rfl | rfl | hk)
  · exact IsT.not_blk h.blk (by decide)
  · exact IsT.not_map h.ms
  · exact IsT.not_map h.mw
  · exact IsT.not_own h.own (by decide) hk

/-- The reference's disk as a value. -/
def RfV (r : RP) (A1 : Option Addr) (c1 : Nat) (A2 : Option Addr) (c2 : Nat) : Array Value := #[.int .i64 r.size, .slice A1 r.sure.length c1, .slice A2 r.fresh.length c2, .int .i64 r.fuse, .bool r.down]
structure RfIn (w : World) (r : RP) (A1 A2 : Option Addr) : Prop where
  sure : RdT 87 w 65 A1 r.sure.length (flatP r.sure)
  fresh : RdT 87 w 65 A2 r.fresh.length (flatP r.fresh)
  ok : r.Ok
theorem RfIn.fr {w w' : World} {S : Nat → Prop} {r : RP} {A1 A2 : Option Addr} (h : RfIn w r A1 A2) (hf : Fr S w w') (hs : ∀ k, S k → ¬ IsT 87 w k) : RfIn w' r A1 A2 := ⟨h.sure.fr hf hs, h.fresh.fr hf hs, h.ok⟩
theorem RfIn.new {w w' : World} {r : RP} {A1 A2 : Option Addr} (h : RfIn w r A1 A2) (hN : New w w') : RfIn w' r A1 A2 := ⟨h.sure.new hN, h.fresh.new hN, h.ok⟩
/-- What a function of the reference's hands back. -/
def RfEnd (w : World) (r : RP) (n : Int) (e : Ending) : Prop := ∃ A1 c1 A2 c2, e = .returned (.tuple #[.agg (RfV r A1 c1 A2 c2), .int .i64 n]) ∧ RfIn w r A1 A2
def RfEnd1 (w : World) (r : RP) (e : Ending) : Prop := ∃ A1 c1 A2 c2, e = .returned (.agg (RfV r A1 c1 A2 c2)) ∧ RfIn w r A1 A2
theorem elP : ElemOf Tryd.prog 31 87 65 72 := ElemOf.mk' (z := .agg (⟨0, sec0⟩ : PU).cells.toArray) Tryd.underlying31 (by kernel_rfl) rfl (by decide)
end Go.Proofs.YtdojmjglnlkmoaaDoor
/- The reference's disk: made, read. No condition but that it can be read. -/
namespace Go.Proofs.YtdojmjglnlkmoaaDoor
set_option linter.unusedVariables false
set_option linter.unusedSimpArgs false
set_option linter.constructorNameAsVariable false
open Go.RowKit Go.Maps

/-- A put sector of a list. -/
theorem rd_put {q : Nat → Prop} {w : World} {A : Option Addr} {n : Nat} {L : List PU} (h : Rd q w 65 A n (flatP L)) (hL : L.length = n) (hg : ∀ a ∈ L, SecOk a.s) {i : Nat} (hi : i < n) :
    ∃ (g o : Nat) (hl : i < L.length), A = some ⟨g, o, none⟩ ∧ g < w.heap.size ∧ w.cell? ⟨g, o + i * 65, none⟩ = some (.int .i64 L[i].pos) ∧ w.rangeAt g (o + i * 65 + 1) (u8s L[i].s) := by
  obtain ⟨g, o, hA, hp, hgs, hc⟩ := h.out (by omega) (by omega)
  have hl : i < L.length := by omega
  have key : ∀ j, j < 65 → ∀ v, (L[i].cells)[j]? = some v → w.cell? ⟨g, o + i * 65 + j, none⟩ = some v := fun j hj v hv => by
    have := fm_get PU.cells 65 L i j hl (fun x hx => PU.len (hg x hx)) hj
    rw [Nat.add_assoc]
    exact hc (i * 65 + j) v (by rw [flatP, this, hv])
  refine ⟨g, o, hl, hA, hgs, key 0 (by omega) _ rfl, fun j v hv => ?_⟩
  have hj : j < 64 := by
    have := (List.getElem?_eq_some_iff.1 hv).1
    rwa [u8s_len, (hg _ (List.getElem_mem _)).1] at this
  rw [Nat.add_assoc]
  have := key (1 + j) (by omega) v (by simp only [PU.cells]; rw [Nat.add_comm, List.getElem?_cons_succ]; exact hv)
  exact this
/-- What get answers. -/
def getS (L : List PU) (x : Int) : List Int := (lastP L x).getD sec0

set_option maxHeartbeats 2000000 in
set_option maxRecDepth 100000 in
theorem get_any {q : Nat → Prop} (A : Option Addr) (n c : Nat) (L : List PU) (x : Int) (w : World) (hR : Rd q w 65 A n (flatP L)) (hL : L.length = n) (hg : ∀ a ∈ L, SecOk a.s) (hn : n ≤ 1000000) :
    Calls Tryd.prog 45 #[.slice A n c, .int .i64 x] w fun e w' => e = .returned (.tuple #[.agg (secA (getS L x)), .bool (lastP L x).isSome]) ∧ New w w' := by
  have HR := Lib.hid hR
  have HL := Lib.hid hL
  have HG := Lib.hid hg
  clear hR hL hg
  go_enter Tryd.func45, Tryd.ntmps45
  go_wp2_with ((with_reducible refine atOp ⟨some 4, .alloc _, _, _, _, _⟩ ?_); refine wpList_alloc_sec rfl rfl secInfo ?_)
  obtain ⟨w0, hw0⟩ : ∃ w0 : World, w0 = w.alloc (.cells (secA sec0) 23) := ⟨_, rfl⟩
  have HN0 : Hid (New w w0) := Lib.hid (by rw [hw0]; exact New.al (New.refl _) _)
  have HB0 : Hid (Blk w0 w.heap.size 23 (secA sec0)) := Lib.hid (by rw [hw0]; exact Blk.new _ _ _)
  rw [← hw0]
  clear hw0
  go_loopw [6] (fun i wr => ∃ (j : Nat), j ≤ n ∧ i = .int .i64 ((j : Int) - 1) ∧ wr = w0 ∧ Hid (lastP L x = lastP (L.take j) x)) (fun i _ => (intOf i + 1).toNat)
  case atStart => exact ⟨n, by omega, by go_num, rfl, Lib.hid (by rw [List.take_of_length_le (by rw [HL.out]; omega)])⟩
  case round =>
    obtain ⟨j, hj, rfl, rfl, HI⟩ := hrel
    rcases j with _ | j
    · have HI0 : Hid (lastP L x = none) := Lib.hid (by rw [HI.out]; rfl)
      have HGS : Hid (getS L x = sec0) := Lib.hid (by unfold getS; rw [HI0.out]; rfl)
      have hbuild : ∀ w, (Instr.build 23 #[]).run Tryd.prog w = .ok (.agg (secA sec0)) w := fun _ => by kernel_rfl
      clear HI
      go_wp2_with ((with_reducible refine atOp ⟨none, .store 23 (.tmp 4) _, _, _, _, _⟩ ?_); refine wpList_store_blk (s := sec0) (s0 := sec0) rfl (.tmp 4) (.tmp 26) rfl rfl rfl rfl HB0.out rfl sec0_ok.1 ?_; intro w2 hb2 hf2; have HB2 := Lib.hid hb2; have HF2 := Lib.hid hf2; clear hb2 hf2)
      refine bodyPost_ret (results_sec2 rfl _ _ rfl HB2.out Tryd.underlying23 rfl sec0_ok.1) rfl ?_
      exact ⟨by rw [HGS.out, HI0.out]; rfl, HN0.out.fr HF2.out (fun k hk => by omega)⟩
    · obtain ⟨gA, oA, hl, rfl, -, cp, hra⟩ := rd_put (HN0.out.rd HR.out) HL.out HG.out (show j < n by omega)
      have hsn : lastP (L.take (j + 1)) x = if L[j].pos = x then some L[j].s else lastP (L.take j) x := by rw [List.take_succ_eq_append_getElem hl, lastP_snoc]
      have hok := HG.out L[j] (List.getElem_mem _)
      generalize L[j] = pu at cp hra hsn hok
      have HSN := Lib.hid hsn
      have HRA := Lib.hid hra
      have HOK := Lib.hid hok
      have hj0 : (0 : Int) ≤ ((j + 1 : Nat) : Int) - 1 := by omega
      have hj1 : (((j + 1 : Nat) : Int) - 1).toNat = j := by omega
      have hj2 : ((j + 1 : Nat) : Int) - 1 = (j : Int) := by omega
      have hlt : j < n := by omega
      rw [hj2]
      clear hsn hra hok hj0 hj1 hj2
      by_cases hp : pu.pos = x
      · have HLX : Hid (lastP L x = some pu.s) := Lib.hid (by rw [HI.out, HSN.out, if_pos hp])
        have HGS : Hid (getS L x = pu.s) := Lib.hid (by unfold getS; rw [HLX.out]; rfl)
        have hpb : (pu.pos == x) = true := by simp [hp]
        clear hp HI
        go_wp2_with (first
          | ((with_reducible refine atOp ⟨some 25, .load _ _, _, _, _, _⟩ ?_); refine wpList_load_range rfl _ rfl rfl HRA.out Tryd.underlying23 rfl (by rw [u8s_len, HOK.out.1]; rfl) ?_)
          | ((with_reducible refine atOp ⟨none, .store 23 (.tmp 4) _, _, _, _, _⟩ ?_); refine wpList_store_blk (s := pu.s) (s0 := sec0) rfl (.tmp 4) (.tmp 25) rfl rfl rfl rfl HB0.out rfl HOK.out.1 ?_; intro w2 hb2 hf2; have HB2 := Lib.hid hb2; have HF2 := Lib.hid hf2; clear hb2 hf2))
        refine bodyPost_ret (results_sec2 rfl _ _ rfl HB2.out Tryd.underlying23 rfl HOK.out.1) rfl ?_
        exact ⟨by rw [HGS.out, HLX.out]; rfl, HN0.out.fr HF2.out (fun k hk => by omega)⟩
      · have HI2 : Hid (lastP L x = lastP (L.take j) x) := Lib.hid (by rw [HI.out, HSN.out, if_neg hp])
        have hpb : (pu.pos == x) = false := by simp [hp]
        clear hp HI
        go_wp2_with fail
        go_roundw
        case rel => exact ⟨j, by omega, by go_num, trivial, HI2⟩
        case measure => simp [intOf]
theorem results_row1 {fn : Func} {p : Tmp} {ty : TypeId} {P : Program} (h : fn.results = #[.cell p ty]) (tmps : Array Value) (w : World) (g : Nat) (cs : Array Value) (d : TypeDesc)
    (hp : tmps.getD p undef = .pointer (some ⟨g, 0, none⟩)) (hg : Blk w g ty cs) (hu : P.underlying ty = some d) (hd : d.isRow = true) (hi : (P.info? ty).map (·.size) = some cs.size) :
    (results fn tmps).run P w = .ok (.agg cs) w := results_cell_row h tmps w g ty cs (0, 0) d hp hg hu (by cases d <;> first | rfl | (simp [TypeDesc.isRow] at hd)) hi
theorem results_row2 {fn : Func} {p q : Tmp} {ty : TypeId} {P : Program} (h : fn.results = #[.cell p ty, .tmp q]) (tmps : Array Value) (w : World) (g : Nat) (cs : Array Value) (d : TypeDesc)
    (hp : tmps.getD p undef = .pointer (some ⟨g, 0, none⟩)) (hg : Blk w g ty cs) (hu : P.underlying ty = some d) (hd : d.isRow = true) (hi : (P.info? ty).map (·.size) = some cs.size) :
    (results fn tmps).run P w = .ok (.tuple #[.agg cs, tmps.getD q undef]) w := by
  have hp' : tmps[p]?.getD undef = .pointer (some ⟨g, 0, none⟩) := by simpa using hp
  simp [results, h, hp', asAddr, run_loadVar_row w g ty ty cs (0, 0) _ hg hu (by cases d <;> first | rfl | (simp [TypeDesc.isRow] at hd)) hi]

set_option maxRecDepth 100000 in
theorem rnew_any (n : Int) (w : World) : Calls Tryd.prog 9 #[.int .i64 n] w fun e w' => e = .returned (.agg (RfV (RP.new n) none 0 none 0)) ∧ New w w' := by
  go_enter Tryd.func9, Tryd.ntmps9
  go_wp2_with fail
  refine bodyPost_ret (v := .agg (RfV (RP.new n) none 0 none 0)) (results_row1 rfl _ _ w.heap.size _ _ rfl (Blk.new _ _ _) Tryd.underlying33 rfl rfl) rfl ?_
  exact ⟨rfl, (New.refl w).al _⟩

set_option maxHeartbeats 4000000 in
set_option maxRecDepth 100000 in
theorem rread_any (r : RP) (A1 : Option Addr) (c1 : Nat) (A2 : Option Addr) (c2 : Nat) (x : Int) (w : World) (h : RfIn w r A1 A2) (hn : r.tot ≤ 1000000) (hx : (Lit.int .i64 x).wf = true) (hz : -9223372036854775808 ≤ r.size ∧ r.size ≤ 9223372036854775807) :
    Calls Tryd.prog 33 #[.agg (RfV r A1 c1 A2 c2), .int .i64 x] w fun e w' => e = .returned (.tuple #[.agg (secA (r.rget x)), .int .i64 (r.rcode x)]) ∧ New w w' := by
  have H := Lib.hid h
  have HT1 : Hid (r.sure.length ≤ 1000000) := Lib.hid (by unfold RP.tot at hn; omega)
  have HT2 : Hid (r.fresh.length ≤ 1000000) := Lib.hid (by unfold RP.tot at hn; omega)
  have hxb := bounds_i64 hx
  unfold RfV
  clear h hn hx
  by_cases hw : 0 ≤ x ∧ x < r.size
  · have t0 : decide (x < 0) = false := decide_eq_false (by omega)
    have t1 : decide (r.size ≤ x) = false := decide_eq_false (by omega)
    have HC : Hid (r.rcode x = 0 ∧ r.rget x = (match lastP r.fresh x with | some s => s | none => (lastP r.sure x).getD sec0)) := Lib.hid (by
      unfold RP.rcode RP.rget RP.within
      rw [decide_eq_true hw]; exact ⟨rfl, rfl⟩)
    clear hw
    go_enter Tryd.func33, Tryd.ntmps33
    go_wp2_with ((with_reducible refine atOp ⟨some 4, .alloc _, _, _, _, _⟩ ?_); refine wpList_alloc_sec rfl rfl secInfo ?_)
    obtain ⟨w0, hw0⟩ : ∃ w0 : World, w0 = (w.alloc (.cells #[.int .i64 r.size, .slice A1 r.sure.length c1, .slice A2 r.fresh.length c2, .int .i64 r.fuse, .bool r.down] 33)).alloc (.cells (secA sec0) 23) := ⟨_, rfl⟩
    have HN0 : Hid (New w w0) := Lib.hid (by rw [hw0]; exact ((New.refl w).al _).al _)
    have HB0 : Hid (Blk w0 (w.heap.size + 1) 23 (secA sec0)) := Lib.hid (by rw [hw0]; exact Blk.new' _ _ _ (by simp))
    have HR0 : Hid (Blk w0 w.heap.size 33 #[.int .i64 r.size, .slice A1 r.sure.length c1, .slice A2 r.fresh.length c2, .int .i64 r.fuse, .bool r.down]) := Lib.hid (by rw [hw0]; exact (Blk.new _ _ _).alloc _)
    rw [← hw0]
    clear hw0
    refine (get_any A2 r.fresh.length c2 r.fresh x w0 ((H.out.new HN0.out).fresh) rfl H.out.ok.2 HT2.out).mono ?_
    rintro e w1 ⟨rfl, hN1⟩
    have HN1 : Hid (New w w1) := Lib.hid (HN0.out.tr hN1)
    have HB1 := Lib.hid (New.blk hN1 HB0.out)
    have HR1 := Lib.hid (New.blk hN1 HR0.out)
    have hok := lastP_ok H.out.ok.2 x
    clear hN1
    cases hf : lastP r.fresh x with
    | some s =>
      have HF := Lib.hid hf
      have HG : Hid (getS r.fresh x = s) := Lib.hid (by unfold getS; rw [hf]; rfl)
      have HOK : Hid (SecOk s) := Lib.hid (by rw [hf] at hok; exact hok)
      clear hok hf
      rw [HG.out]
      simp only [Option.isSome_some]
      go_wp2_with (first
        | ((with_reducible refine atOp ⟨some 6, .alloc _, _, _, _, _⟩ ?_); refine wpList_newvar (s := s) rfl rfl rfl _ _ rfl secInfo rfl rfl rfl HOK.out.1 ?_)
        | ((with_reducible refine atOp ⟨some 27, .load _ _, _, _, _, _⟩ ?_); refine wpList_load_blk (s := s) rfl _ rfl Tryd.underlying23 rfl rfl (Blk.new _ _ _) HOK.out.1 ?_)
        | ((with_reducible refine atOp ⟨none, .store 23 (.tmp 4) _, _, _, _, _⟩ ?_); refine wpList_store_blk (s := s) (s0 := sec0) rfl (.tmp 4) (.tmp 27) rfl rfl rfl rfl (HB1.out.alloc _) rfl HOK.out.1 ?_; intro w2 hb2 hf2; have HB2 := Lib.hid hb2; have HF2 := Lib.hid hf2; clear hb2 hf2))
      refine bodyPost_ret (results_sec2 rfl _ _ rfl HB2.out Tryd.underlying23 rfl HOK.out.1) rfl ?_
      exact ⟨by rw [HC.out.1, HC.out.2, HF.out]; rfl, (HN1.out.al _).fr HF2.out (fun k hk => by omega)⟩
    | none =>
      have HF := Lib.hid hf
      have HG : Hid (getS r.fresh x = sec0) := Lib.hid (by unfold getS; rw [hf]; rfl)
      have HOK : Hid (SecOk (getS r.sure x)) := Lib.hid (lastP_ok H.out.ok.1 x)
      have HR2 := HR1.out.cell 1
      have e1 : ∀ o : Obj, (w1.alloc o).cell? ⟨w.heap.size, 1, none⟩ = some (.slice A1 r.sure.length c1) := fun o => (New.al (New.refl w1) o).cell_ (HR1.out.cell 1)
      clear hok hf HR2
      rw [HG.out]
      simp only [Option.isSome_none]
      go_wp2_with ((with_reducible refine atOp ⟨some 6, .alloc _, _, _, _, _⟩ ?_); refine wpList_newvar (s := sec0) rfl rfl rfl _ _ rfl secInfo rfl rfl rfl sec0_ok.1 ?_)
      obtain ⟨w2, hw2⟩ : ∃ w2 : World, w2 = w1.alloc (.cells (secA sec0) 23) := ⟨_, rfl⟩
      have HN2 : Hid (New w w2) := Lib.hid (by rw [hw2]; exact HN1.out.al _)
      have HB2 : Hid (Blk w2 (w.heap.size + 1) 23 (secA sec0)) := Lib.hid (by rw [hw2]; exact HB1.out.alloc _)
      rw [← hw2]
      clear hw2 e1
      refine (get_any A1 r.sure.length c1 r.sure x w2 ((H.out.new HN2.out).sure) rfl H.out.ok.1 HT1.out).mono ?_
      rintro e w3 ⟨rfl, hN3⟩
      have HN3 : Hid (New w w3) := Lib.hid (HN2.out.tr hN3)
      have HB3 := Lib.hid (New.blk hN3 HB2.out)
      have HE : Hid (r.rget x = getS r.sure x) := Lib.hid (by rw [HC.out.2, HF.out]; rfl)
      clear hN3
      generalize getS r.sure x = s at *
      go_wp2_with (first
        | ((with_reducible refine atOp ⟨some 8, .alloc _, _, _, _, _⟩ ?_); refine wpList_newvar (s := s) rfl rfl rfl _ _ rfl secInfo rfl rfl rfl HOK.out.1 ?_)
        | ((with_reducible refine atOp ⟨some 35, .load _ _, _, _, _, _⟩ ?_); refine wpList_load_blk (s := s) rfl _ rfl Tryd.underlying23 rfl rfl (Blk.new _ _ _) HOK.out.1 ?_)
        | ((with_reducible refine atOp ⟨none, .store 23 (.tmp 4) _, _, _, _, _⟩ ?_); refine wpList_store_blk (s := s) (s0 := sec0) rfl (.tmp 4) (.tmp 35) rfl rfl rfl rfl (HB3.out.alloc _) rfl HOK.out.1 ?_; intro w4 hb4 hf4; have HB4 := Lib.hid hb4; have HF4 := Lib.hid hf4; clear hb4 hf4))
      refine bodyPost_ret (results_sec2 rfl _ _ rfl HB4.out Tryd.underlying23 rfl HOK.out.1) rfl ?_
      exact ⟨by rw [HC.out.1, HE.out]; rfl, (HN3.out.al _).fr HF4.out (fun k hk => by omega)⟩
  · have HC : Hid (r.rcode x = 1 ∧ r.rget x = sec0) := Lib.hid (by
      unfold RP.rcode RP.rget RP.within
      rw [decide_eq_false hw]; exact ⟨rfl, rfl⟩)
    have hbuild : ∀ w, (Instr.build 23 #[]).run Tryd.prog w = .ok (.agg (secA sec0)) w := fun _ => by kernel_rfl
    by_cases hx0 : x < 0
    · have t0 : decide (x < 0) = true := decide_eq_true hx0
      clear hw
      go_enter Tryd.func33, Tryd.ntmps33
      go_wp2_with (first
        | ((with_reducible refine atOp ⟨some 4, .alloc _, _, _, _, _⟩ ?_); refine wpList_alloc_sec rfl rfl secInfo ?_)
        | ((with_reducible refine atOp ⟨none, .store 23 (.tmp 4) _, _, _, _, _⟩ ?_); refine wpList_store_blk (s := sec0) (s0 := sec0) rfl (.tmp 4) (.tmp 18) rfl rfl rfl rfl (Blk.new' _ _ _ (by simp)) rfl sec0_ok.1 ?_; intro w4 hb4 hf4; have HB4 := Lib.hid hb4; have HF4 := Lib.hid hf4; clear hb4 hf4))
      refine bodyPost_ret (results_sec2 rfl _ _ rfl HB4.out Tryd.underlying23 rfl sec0_ok.1) rfl ?_
      exact ⟨by rw [HC.out.1, HC.out.2]; rfl, (((New.refl w).al _).al _).fr HF4.out (fun k hk => by omega)⟩
    · have t0 : decide (x < 0) = false := decide_eq_false hx0
      have t1 : decide (r.size ≤ x) = true := decide_eq_true (by omega)
      clear hw
      go_enter Tryd.func33, Tryd.ntmps33
      go_wp2_with (first
        | ((with_reducible refine atOp ⟨some 4, .alloc _, _, _, _, _⟩ ?_); refine wpList_alloc_sec rfl rfl secInfo ?_)
        | ((with_reducible refine atOp ⟨none, .store 23 (.tmp 4) _, _, _, _, _⟩ ?_); refine wpList_store_blk (s := sec0) (s0 := sec0) rfl (.tmp 4) (.tmp 18) rfl rfl rfl rfl (Blk.new' _ _ _ (by simp)) rfl sec0_ok.1 ?_; intro w4 hb4 hf4; have HB4 := Lib.hid hb4; have HF4 := Lib.hid hf4; clear hb4 hf4))
      refine bodyPost_ret (results_sec2 rfl _ _ rfl HB4.out Tryd.underlying23 rfl sec0_ok.1) rfl ?_
      exact ⟨by rw [HC.out.1, HC.out.2]; rfl, (((New.refl w).al _).al _).fr HF4.out (fun k hk => by omega)⟩
/-- A part laid into a struct's cells. -/
theorem fold_set (k : Nat) : ∀ (L : List Value) (m : Nat) (C : Array Value) (i : Nat), k + m + L.length ≤ C.size →
    (List.foldl (fun cs x => cs.setIfInBounds (k + x.snd) x.fst) C (L.zipIdx m))[i]? = if k + m ≤ i ∧ i < k + m + L.length then L[i - (k + m)]? else C[i]?
  | [], m, C, i, _ => by simp; intro h1 h2; omega
  | v :: L, m, C, i, h => by
    simp only [List.length_cons] at h
    rw [List.zipIdx_cons, List.foldl_cons, fold_set k L (m + 1) _ i (by simp; omega)]
    simp only [List.length_cons]
    by_cases h1 : k + (m + 1) ≤ i ∧ i < k + (m + 1) + L.length
    · rw [if_pos h1, if_pos (by omega)]
      rw [show i - (k + m) = (i - (k + (m + 1))) + 1 by omega, List.getElem?_cons_succ]
    · rw [if_neg h1, Array.getElem?_setIfInBounds]
      by_cases h2 : k + m = i
      · subst h2
        rw [if_pos rfl, if_pos (by omega), if_pos (by omega), Nat.sub_self]
        rfl
      · rw [if_neg h2, if_neg (by omega)]
def putA (x : Int) (s : List Int) : Array Value := (PU.cells ⟨x, s⟩).toArray
def putZ : Array Value := putA 0 sec0
theorem putZ_size : putZ.size = 65 := by simp [putZ, putA, PU.len (x := ⟨0, sec0⟩) sec0_ok]
theorem putZ_ne : putZ ≠ #[] := fun e => by have := congrArg Array.size e; rw [putZ_size] at this; simp at this
theorem putZ_zero (w : World) : (zeroValue 87).run Tryd.prog w = .ok (.agg putZ) w := (zero_of_info (n := 65) (by kernel_rfl)).1 w
theorem put_fold {x : Int} {s : List Int} (hs : SecOk s) : List.foldl (fun cs x => cs.setIfInBounds (1 + x.snd) x.fst) (putZ.setIfInBounds 0 (.int .i64 x)) (u8s s).zipIdx = putA x s := by
  apply Array.ext_getElem?
  intro i
  have hl : (u8s s).length = 64 := by rw [u8s_len, hs.1]
  rw [fold_set 1 (u8s s) 0 _ i (by simp [putZ_size, hl])]
  rw [hl]
  unfold putA PU.cells
  by_cases h : 1 + 0 ≤ i ∧ i < 1 + 0 + 64
  · rw [if_pos h]
    obtain ⟨j, rfl⟩ : ∃ j, i = j + 1 := ⟨i - 1, by omega⟩
    simp
  · rw [if_neg h]
    by_cases h0 : i = 0
    · subst h0
      rw [Array.getElem?_setIfInBounds, if_pos rfl, if_pos (by rw [putZ_size]; omega)]
      rfl
    · rw [Array.getElem?_setIfInBounds, if_neg (by omega), Array.getElem?_eq_none (by rw [putZ_size]; omega)]
      simp [hl]
      omega

theorem putA_size {x : Int} {s : List Int} (hs : SecOk s) : (putA x s).size = 65 := by simp [putA, PU.len (x := ⟨x, s⟩) hs]
theorem put_fold2 {x : Int} {s : List Int} (hs : SecOk s) (C : Array Value) (hC : C.size = 65) : Array.foldl (fun cs x => cs.setIfInBounds x.snd x.fst) C ((putA x s).zipIdx) 0 65 = putA x s := by
  have h65 : ((putA x s).zipIdx).size = 65 := by simp [putA_size hs]
  have e : Array.foldl (fun cs x => cs.setIfInBounds x.snd x.fst) C ((putA x s).zipIdx) 0 65 = List.foldl (fun cs x => cs.setIfInBounds (0 + x.snd) x.fst) C ((putA x s).toList.zipIdx 0) := by
    have := Array.foldl_toList (fun (cs : Array Value) (x : Value × Nat) => cs.setIfInBounds x.snd x.fst) (init := C) (xs := (putA x s).zipIdx)
    rw [h65] at this
    rw [← this, Array.toList_zipIdx]
    simp only [Nat.zero_add]
  rw [e]
  apply Array.ext_getElem?
  intro i
  have hl : (putA x s).toList.length = 65 := by simp [putA_size hs]
  rw [fold_set 0 _ 0 C i (by omega), hl]
  by_cases h : 0 + 0 ≤ i ∧ i < 0 + 0 + 65
  · rw [if_pos h]; simp
  · rw [if_neg h, Array.getElem?_eq_none (by omega), Array.getElem?_eq_none (by rw [putA_size hs]; omega)]

end Go.Proofs.YtdojmjglnlkmoaaDoor
