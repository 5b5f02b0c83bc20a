/- The reference's lists: one without a place, one with one more; a pick's place. No condition but that they can be read. -/
import Derived.Test.YtajoahhjgloefaaTuA
namespace Go.Proofs.Ytajoahhjgloefaa
open Go.RowKit Go.Maps

theorem erase_snoc (M : List Fm) (x : Fm) (a : Nat) : (M ++ [x]).eraseIdx a = if M.length = a then M.eraseIdx a else M.eraseIdx a ++ [x] := by
  induction M generalizing a with
  | nil => cases a <;> simp
  | cons y M ih =>
    cases a with
    | zero => simp
    | succ a =>
      simp only [List.cons_append, List.eraseIdx_cons_succ, List.length_cons, Nat.add_right_cancel_iff]
      rw [ih a]
      split <;> rfl
theorem erase_step {L : List Fm} {j : Nat} (h : j < L.length) (at_ : Nat) : (L.take (j + 1)).eraseIdx at_ = if j = at_ then (L.take j).eraseIdx at_ else (L.take j).eraseIdx at_ ++ [L[j]] := by
  have hl : (L.take j).length = j := by rw [List.length_take]; omega
  rw [List.take_succ_eq_append_getElem h, erase_snoc, hl]
theorem own_rs {P : Nat → Prop} {w : World} {v : Value} {L : List Fm} {B : Nat} (h : w.ownsRow B 33 1 v L.length (vals L)) (hr : ∀ x ∈ L, Rd P w 1 x.A x.n (u8s x.xs) ∧ Byt x.xs ∧ x.n ≤ 1000) : RsIn (fun k => P k ∨ B ≤ k) w v L := by
  obtain ⟨A, c, e, hc, -, -, -⟩ := own_shape h
  exact ⟨⟨A, c, e, hc, (Rd.own h e).imp fun k hk => .inr (own_lt h k hk).1⟩, fun x hx => ⟨(hr x hx).1.imp fun _ => .inl, (hr x hx).2⟩⟩
set_option maxHeartbeats 2000000 in
theorem rwithout_any {P : Nat → Prop} (v : Value) (L : List Fm) (at_ : Nat) (w : World) (h : RsIn P w v L) (hl : L.length ≤ 100000) :
    Calls Try.prog 35 #[v, .int .i64 at_] w fun e w' => (∃ v', e = .returned v' ∧ RsIn (fun k => P k ∨ w.heap.size ≤ k) w' v' (L.eraseIdx at_)) ∧ New w w' := by
  have H := Lib.hid h
  obtain ⟨⟨VA, vc, rfl, hvc, -⟩, -⟩ := h
  obtain ⟨N, hN⟩ : ∃ N, N = L.length := ⟨_, rfl⟩
  rw [← hN] at hvc hl ⊢
  have HN := Lib.hid hN
  clear hN
  go_enter Try.func35, Try.ntmps35
  go_wp2_with fail
  go_loopw [5, 6] (fun u i wr => ∃ (j : Nat), j ≤ N ∧ i = .int .i64 j ∧ Hid (wr.ownsRow w.heap.size 33 1 u ((L.take j).eraseIdx at_).length (vals ((L.take j).eraseIdx at_)) ∧ New w wr)) (fun _ i _ => N - (intOf i).toNat)
  case atStart => exact ⟨0, Nat.zero_le _, rfl, Lib.hid ⟨by simpa [vals] using World.ownsRow_nil _ _ _ _, New.refl _⟩⟩
  case round =>
    obtain ⟨j, hj, rfl, HO⟩ := hrel
    by_cases hlt : j < N
    · have hjl : j < L.length := by rw [← HN.out]; exact hlt
      obtain ⟨g, o, c', e, -, hcell⟩ := (H.out.new HO.out.2).at (by rw [← HN.out]; omega) hjl
      injection e with e1 e2 e3
      subst e1
      have hst := erase_step hjl at_
      generalize L[j] = y at hcell hst
      obtain ⟨yA, yn, yc, ys⟩ := y
      have HST := Lib.hid hst
      have hml : ((L.take j).eraseIdx at_).length ≤ j := Nat.le_trans (List.length_eraseIdx_le ..) (List.length_take_le _ _)
      obtain ⟨M, hM⟩ : ∃ M, M = (L.take j).eraseIdx at_ := ⟨_, rfl⟩
      rw [← hM] at HO hml HST
      obtain ⟨sA, sc, rfl, hnc, hcm, -, -⟩ := own_shape HO.out.1
      have hsz := HO.out.2.size
      simp only [Fm.val] at hcell
      clear hst e2 e3 hM
      by_cases hd : j = at_
      · subst hd
        go_wp2_with fail
        go_roundw
        case rel => exact ⟨j + 1, by omega, by go_num, by rw [HST.out, if_pos rfl]; exact HO⟩
        case measure => simp [intOf]; omega
      · have hne : ((j : Int) == (at_ : Int)) = false := by simp; omega
        have hne' : ¬ (j : Int) = (at_ : Int) := by omega
        have HD := Lib.hid hd
        clear hd
        go_wp2_with (at_builtin; refine wpList_app elL _ rfl (.tmp 16) (.tmp 21) rfl w.heap.size (.slice sA M.length sc) M.length (vals M) rfl (New.own (New.al (New.refl wr) _) HO.out.1) (some ⟨wr.heap.size, 0, none⟩) 1 1 [.slice yA yn yc] rfl (Rd.ofBlk (p := fun _ => True) (t := 33) (cs := #[.slice yA yn yc]) (Blk.new' _ _ _ rfl) 1 1 rfl trivial) (by simp [Value.oneCell']) (by unfold maxLen; omega) (by omega) (by simp; omega) ?_; intro A1 d1 w3 hO3 hF3 hA3; have HO3 := Lib.hid hO3; have HN3 : Hid (New w w3) := Lib.hid (New.fr (New.al HO.out.2 _) hF3 (fun k hk => (own_lt HO.out.1 k hk).1)); clear hO3 hF3 hA3)
        go_roundw
        case rel =>
          refine ⟨j + 1, by omega, by go_num, ?_⟩
          rw [HST.out, if_neg HD.out]
          refine Lib.hid ⟨?_, HN3.out⟩
          have h := HO3.out
          simpa [vals, Fm.val] using h
        case measure => simp [intOf]; omega
    · obtain rfl : j = N := by omega
      go_wp2_with fail
      go_ret
      have hw := HO.out.1
      rw [List.take_of_length_le (by rw [HN.out]; exact Nat.le_refl _)] at hw
      exact ⟨⟨_, rfl, own_rs hw fun x hx => (H.out.new HO.out.2).el x (List.mem_of_mem_eraseIdx hx)⟩, HO.out.2⟩
set_option maxHeartbeats 2000000 in
theorem rmore_any {P : Nat → Prop} (v : Value) (L : List Fm) (x : Fm) (w : World) (h : RsIn P w v L) (hl : L.length ≤ 100000) (hx : Rd P w 1 x.A x.n (u8s x.xs) ∧ Byt x.xs ∧ x.n ≤ 1000) :
    Calls Try.prog 38 #[v, x.val] w fun e w' => (∃ v', e = .returned v' ∧ RsIn (fun k => P k ∨ w.heap.size ≤ k) w' v' (L ++ [x])) ∧ New w w' := by
  have H := Lib.hid h
  have HX := Lib.hid hx
  obtain ⟨⟨VA, vc, rfl, hvc, hr⟩, -⟩ := h
  have HR := Lib.hid hr
  obtain ⟨xA, xn, xc, xs⟩ := x
  simp only [Fm.val]
  obtain ⟨N, hN⟩ : ∃ N, N = L.length := ⟨_, rfl⟩
  rw [← hN] at hvc hl HR ⊢
  have HN := Lib.hid hN
  clear hN hr hx
  go_enter Try.func38, Try.ntmps38
  go_wp2_with (at_builtin; first
    | (refine wpList_app (o := ⟨some 7, _, _, _, _, _⟩) elL _ rfl (.tmp 5) (.tmp 6) rfl w.heap.size (.slice (some ⟨w.heap.size, 0, none⟩) 0 0) 0 [] rfl (own_lit (Blk.new w 33 #[]) (Nat.le_refl _)) VA N vc (vals L) rfl (New.rd (New.al (New.refl w) _) HR.out) (vals_one L) (by unfold maxLen; omega) (by omega) (by simp) ?_; intro A1 d1 w3 hO3 hF3 hA3; rw [Nat.zero_add]; rw [Nat.zero_add, List.nil_append] at hO3; have HO3 := Lib.hid hO3; have HN3 : Hid (New w w3) := Lib.hid (New.fr (New.al (New.refl w) _) hF3 (fun k hk => (own_lt (own_lit (Blk.new w 33 #[]) (Nat.le_refl _) : World.ownsRow _ w.heap.size 33 1 _ 0 []) k hk).1)); have hs3 := HN3.out.size; clear hO3 hF3 hA3)
    | (refine wpList_app (o := ⟨some 10, _, _, _, _, _⟩) elL _ rfl (.tmp 7) (.tmp 9) rfl w.heap.size (.slice A1 N d1) N (vals L) rfl (New.own (New.al (New.refl w3) _) HO3.out) (some ⟨w3.heap.size, 0, none⟩) 1 1 [.slice xA xn xc] rfl (Rd.ofBlk (p := fun _ => True) (t := 33) (cs := #[.slice xA xn xc]) (Blk.new' _ _ _ rfl) 1 1 rfl trivial) (by simp [Value.oneCell']) (by unfold maxLen; omega) (by omega) (by simp; omega) ?_; intro A2 d2 w4 hO4 hF4 hA4; have HO4 := Lib.hid hO4; have HN4 : Hid (New w w4) := Lib.hid (New.fr (New.al HN3.out _) hF4 (fun k hk => (own_lt HO3.out k hk).1)); clear hO4 hF4 hA4))
  go_ret
  refine ⟨⟨_, rfl, ?_⟩, HN4.out⟩
  have hw := HO4.out
  rw [HN.out] at hw ⊢
  refine own_rs (by simpa [vals, Fm.val] using hw) fun y hy => ?_
  rcases List.mem_append.1 hy with hy | hy
  · exact (H.out.new HN4.out).el y hy
  · obtain rfl := List.mem_singleton.1 hy
    exact ⟨HN4.out.rd HX.out.1, HX.out.2⟩
end Go.Proofs.Ytajoahhjgloefaa
