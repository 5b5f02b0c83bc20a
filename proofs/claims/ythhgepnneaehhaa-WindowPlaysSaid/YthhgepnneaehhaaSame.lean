/- The law's own comparison of a window with the reference's. No condition but the window's. -/
import Derived.Test.YthhgepnneaehhaaWinE
import Derived.Test.YthhgepnneaehhaaRefB
import Derived.Test.YthhgepnneaehhaaWide
namespace Go.Proofs.Ythhgepnneaehhaa.Wi
open Go.Proofs.Ythhgepnneaehhaa
open Go.RowKit

theorem place_self {L : List Wt} (hnd : (L.map Wt.num).Nodup) {k : Nat} (hk : k < L.length) : place L L[k].num = some k := by
  refine place_some hk rfl fun j hj e => ?_
  exact (List.pairwise_iff_getElem.1 hnd) j k (by simp; omega) (by simpa using hk) hj (by simpa using e)
theorem nums_u64s (L : List Wt) : nums L = u64s (L.map Wt.num) := by simp [nums, u64s]
def opn (L : List Wt) : List Wt := L.filter fun x => !x.done
theorem opn_snoc_no (L : List Wt) (x : Wt) (h : x.done = true) : opn (L ++ [x]) = opn L := by simp [opn, List.filter_append, h]
theorem opn_snoc_yes (L : List Wt) (x : Wt) (h : x.done = false) : opn (L ++ [x]) = opn L ++ [x] := by simp [opn, List.filter_append, h]
theorem opn_len (L : List Wt) : (opn L).length ≤ L.length := List.length_filter_le _ _
theorem rd_nums {w : World} {base n : Nat} {A : Option Addr} {c : Nat} {L : List Wt} (h : w.ownsRow base 31 1 (.slice A n c) n (nums L)) : Rd (fun k => (Value.slice A n c).ownBlock = some k) w 1 A n (u64s (L.map Wt.num)) := by
  rw [← nums_u64s]
  exact Rd.own h rfl
theorem wide_same {p q : Nat → Prop} (A B : Option Addr) (n m ca cb : Nat) (xs : List Int) (w : World) (hx : Rd p w 1 A n (u64s xs)) (hy : Rd q w 1 B m (u64s xs)) (hn : n ≤ 1000000) (hm : m ≤ 1000000) :
    Calls Try.prog 36 #[.slice A n ca, .slice B m cb] w fun e w' => e = .returned (.bool true) ∧ New w w' :=
  (wide_any A B n m ca cb xs xs w hx hy hn hm).mono fun e w' ⟨h1, h2⟩ => ⟨by rw [h1, decide_eq_true rfl], h2⟩

set_option maxHeartbeats 20000000 in
theorem same_any (base g : Nat) (v : Value) (L : List Wt) (most next : Int) (A : Option Addr) (n c : Nat) (w : World) (hW : Win w base g v L most next) (hth : ∀ x ∈ L, ∃ a : Int, x.thing = .int .i64 a)
    (hnd : (L.map Wt.num).Nodup) (hnx : place L next = none) (hL : L.length = n) (hn : n ≤ 1000) (hR : Rd (fun b => b < w.heap.size) w 4 A n (flat L)) :
    Calls Try.prog 21 #[.pointer (some ⟨g, 0, none⟩), .agg #[.slice A n c, .int .u64 next]] w fun e w' => e = .returned (.bool true) ∧ New w w' := by
  have HW := Lib.hid hW
  have HTH := Lib.hid hth
  have HND := Lib.hid hnd
  have HNX := Lib.hid hnx
  have HL := Lib.hid hL
  have HR := Lib.hid hR
  clear hW hth hnd hnx hL hR
  go_enter Try.func21, Try.ntmps21
  go_wp2_with fail
  obtain ⟨w0, hw0⟩ : ∃ w0 : World, w0 = w.alloc (.cells #[.slice A n c, .int .u64 next] 49) := ⟨_, rfl⟩
  have c0 : w0.cell? ⟨w.heap.size, 0, none⟩ = some (.slice A n c) := by rw [hw0]; simp
  have c1 : w0.cell? ⟨w.heap.size, 1, none⟩ = some (.int .u64 next) := by rw [hw0]; simp
  have HN0 : Hid (New w w0) := Lib.hid (by rw [hw0]; exact New.al (New.refl _) _)
  have HR0 := Lib.hid (Rf.rd_lt HR.out HN0.out)
  rw [← hw0]
  clear hw0
  go_wp2_with fail
  go_loopw [5, 6, 16] (fun o p i wr => ∃ (k : Nat) (vo vp : Value), k ≤ n ∧ i = .int .i64 k ∧ o = vo ∧ p = vp ∧ Hid (wr.ownsRow w0.heap.size 31 1 vo k (nums (L.take k))) ∧
      Hid (wr.ownsRow w0.heap.size 31 1 vp (opn (L.take k)).length (nums (opn (L.take k)))) ∧ Hid (∀ b, vo.ownBlock = some b → ¬ vp.ownBlock = some b) ∧ Hid (New w0 wr)) (fun _ _ i _ => n - (intOf i).toNat)
  case atStart => exact ⟨0, .slice none 0 0, .slice none 0 0, Nat.zero_le _, rfl, rfl, rfl, Lib.hid (World.ownsRow_nil _ _ _ _), Lib.hid (World.ownsRow_nil _ _ _ _), Lib.hid (by intro b h; cases h), Lib.hid (New.refl w0)⟩
  case round =>
    obtain ⟨k, vo, vp, hk, rfl, rfl, rfl, HO, HP, HD, HN⟩ := hrel
    obtain ⟨Ao, co, rfl, -, -, -, -⟩ := own_shape HO.out
    obtain ⟨Ap, cp, rfl, -, -, -, -⟩ := own_shape HP.out
    by_cases hlt : k < n
    rotate_left
    · obtain rfl : k = n := by omega
      have hlk : L.take k = L := List.take_of_length_le (by rw [HL.out]; omega)
      have e1 : nums (L.take k) = nums L := by rw [hlk]
      have e2 : nums (opn (L.take k)) = nums (opn L) := by rw [hlk]
      rw [e1] at HO
      rw [e2] at HP
      clear e1 e2
      have d0 := New.cell_ HN.out c0
      have d1 := New.cell_ HN.out c1
      clear hlk hlt hk c0 c1
      go_wp2_with (go_at_call 23; refine (get_none next base g v L most next wr (HW.out.below (HN0.out.tr HN.out)) HNX.out).mono ?_; rintro e w6 ⟨rfl, hN6⟩; have m0 := New.cell_ hN6 d0; have HN6 : Hid (New wr w6) := Lib.hid hN6; clear hN6)
      clear d0 d1
      have HW6 := Lib.hid (HW.out.below (HN0.out.tr (HN.out.tr HN6.out)))
      have HO6 := Lib.hid (New.own HN6.out HO.out)
      have HP6 := Lib.hid (New.own HN6.out HP.out)
      have hle : decide ((L.length : Int) = (k : Int)) = true := by rw [HL.out]; simp
      have hle2 : ((L.length : Int) == (k : Int)) = true := by rw [HL.out]; simp
      have HW6d : Hid (Win w6.drew base g v L most next) := HW6
      have HO6d : Hid (w6.drew.ownsRow w0.heap.size 31 1 (.slice Ao k co) k (nums L)) := HO6
      have HP6d : Hid (w6.drew.ownsRow w0.heap.size 31 1 (.slice Ap (opn (L.take k)).length cp) (opn (L.take k)).length (nums (opn L))) := HP6
      have tok1 : True := trivial
      have m0d : w6.drew.cell? ⟨w.heap.size, 0, none⟩ = some (.slice A k c) := m0
      go_region_held3 (fun w' => w'.cell? ⟨w.heap.size, 0, none⟩ = some (.slice A k c))
        (go_keep)
        (first
          | (go_at_call 24; refine (len_any base g v L most next _ HW6d.out).mono ?_; rintro e w7 ⟨rfl, rfl⟩)
          | (go_at_call 25; refine (all_any base g v L most next _ HW6d.out HTH.out).mono ?_; rintro e w7 ⟨⟨va, rfl, hOa⟩, hN7⟩; obtain ⟨Aa, ca, rfl, -, -, -, -⟩ := own_shape hOa; have m7 := New.cell_ hN7 m0d; have HN7 : Hid (New w6.drew w7) := Lib.hid hN7; have HOa := Lib.hid hOa; clear hN7 hOa)
          | (go_at_call 36; have tk := tok1; refine (wide_same _ _ _ _ _ _ (L.map Wt.num) _ (rd_nums HOa.out) (rd_nums (New.own HN7.out HO6d.out)) (by rw [HL.out]; omega) (by omega)).mono ?_; rintro e w8 ⟨rfl, hN8⟩; have m8 := New.cell_ hN8 m7; have HN8 : Hid (New w7 w8) := Lib.hid hN8; clear tk tok1; have HW8 : Hid (Win w8 base g v L most next) := Lib.hid (HW.out.below (HN0.out.tr (HN.out.tr (HN6.out.tr ((New.dr (New.refl w6)).tr (HN7.out.tr HN8.out)))))); clear hN8)
          | (go_at_call 26; refine (open_any base g v L most next _ HW8.out HTH.out).mono ?_; rintro e w9 ⟨⟨vb, rfl, hOb⟩, hN9⟩; obtain ⟨Ab, cb, rfl, -, -, -, -⟩ := own_shape hOb; have m9 := New.cell_ hN9 m8; have HN9 : Hid (New w8 w9) := Lib.hid hN9; have HOb := Lib.hid hOb; clear hN9 hOb)
          | (go_at_call 36; refine (wide_same _ _ _ _ _ _ ((opn L).map Wt.num) _ (rd_nums HOb.out) (rd_nums (New.own HN9.out (New.own HN8.out (New.own HN7.out HP6d.out)))) (by have := opn_len L; rw [HL.out] at this; exact Nat.le_trans this (by omega)) (by have := opn_len (L.take k); have := List.length_take_le k L; omega)).mono ?_; rintro e w10 ⟨rfl, hN10⟩; have m10 := New.cell_ hN10 m9; have HN10 : Hid (New w9 w10) := Lib.hid hN10; clear hN10))
      all_goals
        go_wp2_with fail
        go_ret
        exact ⟨rfl, HN0.out.tr (HN.out.tr (HN6.out.tr ((New.dr (New.refl w6)).tr (HN7.out.tr (HN8.out.tr (HN9.out.tr HN10.out))))))⟩
    · obtain ⟨g', o, hl, rfl, hpb, hbb, e0, e1, e2, e3⟩ := rd_elem (HN.out.rd HR0.out) hlt
      obtain ⟨t, ht⟩ := HTH.out _ (List.getElem_mem hl)
      rw [ht] at e1
      have HT := Lib.hid ht
      have HTK : Hid (L.take (k + 1) = L.take k ++ [L[k]]) := Lib.hid (List.take_succ_eq_append_getElem hl)
      have HN1 : Hid (nums (L.take k ++ [L[k]]) = nums (L.take k) ++ [.int .u64 L[k].num]) := Lib.hid (by simp only [nums, List.map_append, List.map_cons, List.map_nil])
      clear ht
      cases hd : L[k].done
      · rw [hd] at e3
        have HDN := Lib.hid hd
        clear hd
        go_wp2_with (first
          | (at_builtin; refine wpList_app (o := ⟨some 24, _, _, _, _, _⟩) elU _ rfl (.tmp 20) (.tmp 23) rfl w0.heap.size (.slice Ao k co) k (nums (L.take k)) rfl (New.own (New.al (New.al (New.refl wr) _) _) HO.out) (some ⟨wr.heap.size + 1, 0, none⟩) 1 1 [.int .u64 L[k].num] rfl (Rd.ofBlk (p := fun _ => True) (t := 31) (cs := #[.int .u64 L[k].num]) (Blk.new' _ _ _ (by simp)) 1 1 rfl trivial) (by simp [Value.oneCell']) (by unfold maxLen; omega) (by omega) (by simp; have := HN.out.size; omega) ?_; intro A1 d1 w3 hO3 hF3 hA3; have HO3 := Lib.hid hO3; have hBx : Blk w3 wr.heap.size 59 #[.int .u64 L[k].num, .int .i64 t, .int .i64 L[k].ans, .bool false] := Blk.fr ((Blk.new wr _ _).alloc _) hF3 (fun h => Nat.lt_irrefl _ (own_lt HO.out _ h).2); have HF3 : Hid (Fr (fun k' => (Value.slice Ao k co).ownBlock = some k') wr w3) := Lib.hid ((((Fr.refl _ wr).alloc _).alloc _).trans hF3); have HN3 : Hid (New w0 w3) := Lib.hid (HN.out.fr HF3.out (fun k' hk' => (own_lt HO.out k' hk').1)); have HP3 : Hid (w3.ownsRow w0.heap.size 31 1 (.slice Ap (opn (L.take k)).length cp) (opn (L.take k)).length (nums (opn (L.take k)))) := Lib.hid (own_fr HP.out HF3.out (fun b hb h => HD.out b h hb)); have HD3 : Hid (∀ b, (Value.slice A1 (k + 1) d1).ownBlock = some b → ¬ (Value.slice Ap (opn (L.take k)).length cp).ownBlock = some b) := Lib.hid (fun b hb h => by rcases hA3 b hb with h' | h'; exact HD.out b h' h; have h2 := (own_lt HP.out b h).2; simp at h'; omega); have b0 := hBx.cell 0; have b1 := hBx.cell 1; have b3 := hBx.cell 3; have HBX := Lib.hid hBx; clear hO3 hF3 hA3 hBx)
          | (at_builtin; refine wpList_app (o := ⟨some 32, _, _, _, _, _⟩) elU _ rfl (.tmp 28) (.tmp 31) rfl w0.heap.size (.slice Ap (opn (L.take k)).length cp) (opn (L.take k)).length (nums (opn (L.take k))) rfl (New.own (New.al (New.refl w3) _) HP3.out) (some ⟨w3.heap.size, 0, none⟩) 1 1 [.int .u64 L[k].num] rfl (Rd.ofBlk (p := fun _ => True) (t := 31) (cs := #[.int .u64 L[k].num]) (Blk.new' _ _ _ (by simp)) 1 1 rfl trivial) (by simp [Value.oneCell']) (by unfold maxLen; have := opn_len (L.take k); have := List.length_take_le k L; omega) (by have := opn_len (L.take k); have := List.length_take_le k L; omega) (by simp; have := HN3.out.size; omega) ?_; intro A2 d2 w5 hO5 hF5 hA5; have HO5 := Lib.hid hO5; have HF5 : Hid (Fr (fun k' => (Value.slice Ap (opn (L.take k)).length cp).ownBlock = some k') w3 w5) := Lib.hid (((Fr.refl _ w3).alloc _).trans hF5); have hBx5 := HBX.out.fr HF5.out (fun h => by have := (own_lt HP.out _ h).2; omega); have HN5 : Hid (New w0 w5) := Lib.hid (HN3.out.fr HF5.out (fun k' hk' => (own_lt HP.out k' hk').1)); have HO35 : Hid (w5.ownsRow w0.heap.size 31 1 (.slice A1 (k + 1) d1) (k + 1) (nums (L.take k) ++ [.int .u64 L[k].num])) := Lib.hid (own_fr HO3.out HF5.out (fun b hb h => HD3.out b hb h)); have HD5 : Hid (∀ b, (Value.slice A1 (k + 1) d1).ownBlock = some b → ¬ (Value.slice A2 ((opn (L.take k)).length + 1) d2).ownBlock = some b) := Lib.hid (fun b hb h => by rcases hA5 b h with h' | h'; exact HD3.out b hb h'; have h2 := (own_lt HO3.out b hb).2; simp at h'; omega); have g0 := hBx5.cell 0; have g1 := hBx5.cell 1; clear hO5 hF5 hA5 hBx5)
          | (go_at_call 23; refine (get_some L[k].num t k base g v L most next w5 (HW.out.below (HN0.out.tr HN5.out)) (place_self HND.out hl) hl HT.out).mono ?_; rintro e w6 ⟨rfl, hN6⟩; have m1 := New.cell_ hN6 g1; have HN6 := Lib.hid hN6; clear hN6))
        go_roundw
        case rel =>
          refine ⟨k + 1, _, _, by omega, by go_num, rfl, rfl, Lib.hid ?_, Lib.hid ?_, HD5, Lib.hid (HN5.out.tr HN6.out)⟩
          · rw [HTK.out, HN1.out]
            exact New.own HN6.out HO35.out
          · rw [HTK.out, opn_snoc_yes _ _ HDN.out, List.length_append]
            have := New.own HN6.out HO5.out
            rw [show nums (opn (L.take k) ++ [L[k]]) = nums (opn (L.take k)) ++ [.int .u64 L[k].num] by simp [nums]]
            exact this
        case measure => simp [intOf]; omega
      · rw [hd] at e3
        have HDN := Lib.hid hd
        clear hd
        go_wp2_with (first
          | (at_builtin; refine wpList_app (o := ⟨some 24, _, _, _, _, _⟩) elU _ rfl (.tmp 20) (.tmp 23) rfl w0.heap.size (.slice Ao k co) k (nums (L.take k)) rfl (New.own (New.al (New.al (New.refl wr) _) _) HO.out) (some ⟨wr.heap.size + 1, 0, none⟩) 1 1 [.int .u64 L[k].num] rfl (Rd.ofBlk (p := fun _ => True) (t := 31) (cs := #[.int .u64 L[k].num]) (Blk.new' _ _ _ (by simp)) 1 1 rfl trivial) (by simp [Value.oneCell']) (by unfold maxLen; omega) (by omega) (by simp; have := HN.out.size; omega) ?_; intro A1 d1 w3 hO3 hF3 hA3; have HO3 := Lib.hid hO3; have hBx : Blk w3 wr.heap.size 59 #[.int .u64 L[k].num, .int .i64 t, .int .i64 L[k].ans, .bool true] := Blk.fr ((Blk.new wr _ _).alloc _) hF3 (fun h => Nat.lt_irrefl _ (own_lt HO.out _ h).2); have HF3 : Hid (Fr (fun k' => (Value.slice Ao k co).ownBlock = some k') wr w3) := Lib.hid ((((Fr.refl _ wr).alloc _).alloc _).trans hF3); have HN3 : Hid (New w0 w3) := Lib.hid (HN.out.fr HF3.out (fun k' hk' => (own_lt HO.out k' hk').1)); have HP3 : Hid (w3.ownsRow w0.heap.size 31 1 (.slice Ap (opn (L.take k)).length cp) (opn (L.take k)).length (nums (opn (L.take k)))) := Lib.hid (own_fr HP.out HF3.out (fun b hb h => HD.out b h hb)); have HD3 : Hid (∀ b, (Value.slice A1 (k + 1) d1).ownBlock = some b → ¬ (Value.slice Ap (opn (L.take k)).length cp).ownBlock = some b) := Lib.hid (fun b hb h => by rcases hA3 b hb with h' | h'; exact HD.out b h' h; have h2 := (own_lt HP.out b h).2; simp at h'; omega); have b0 := hBx.cell 0; have b1 := hBx.cell 1; have b3 := hBx.cell 3; have HBX := Lib.hid hBx; clear hO3 hF3 hA3 hBx)
          | (go_at_call 23; refine (get_some L[k].num t k base g v L most next w3 (HW.out.below (HN0.out.tr HN3.out)) (place_self HND.out hl) hl HT.out).mono ?_; rintro e w6 ⟨rfl, hN6⟩; have m1 := New.cell_ hN6 b1; have HN6 := Lib.hid hN6; clear hN6))
        go_roundw
        case rel =>
          refine ⟨k + 1, _, _, by omega, by go_num, rfl, rfl, Lib.hid ?_, Lib.hid ?_, HD3, Lib.hid (HN3.out.tr HN6.out)⟩
          · rw [HTK.out, HN1.out]
            exact New.own HN6.out HO3.out
          · rw [HTK.out, opn_snoc_no _ _ HDN.out]
            exact New.own HN6.out HP3.out
        case measure => simp [intOf]; omega
end Go.Proofs.Ythhgepnneaehhaa.Wi
