/- The statements' fixed fact. No condition. -/
import Derived.Test.YtajoahhjgloefaaTrF
import Derived.Lib.SlBytesConst
namespace Go.Proofs.Ytajoahhjgloefaa
open Go.RowKit Go.Maps

theorem one_frame {L : List Fm} {xs : List Int} (h : L.map Fm.xs = [xs]) : ∃ x, L = [x] ∧ x.xs = xs := by
  cases L with
  | nil => simp at h
  | cons x L =>
    simp only [List.map_cons, List.cons.injEq, List.map_eq_nil_iff] at h
    obtain ⟨h1, rfl⟩ := h
    exact ⟨x, rfl, h1⟩
/-- A literal's bytes. -/
theorem lit_rd {w W : World} {x : Int} (hN : New (w.alloc (.cells #[.int .u8 x] 5 (1, 2))) W) : Rd (fun _ => True) W 1 (some ⟨w.heap.size, 0, none⟩) 1 (u8s [x]) := by
  have hb : (w.alloc (.cells #[.int .u8 x] 5 (1, 2))).heap[w.heap.size]? = some (.cells #[.int .u8 x] 5 (1, 2)) := by
    show (w.heap.push _)[w.heap.size]? = _
    simp
  have hW : W.heap[w.heap.size]? = some (.cells #[.int .u8 x] 5 (1, 2)) := (hN.block _ (by simp)).trans hb
  refine ⟨rfl, fun _ => ⟨_, rfl, trivial, (Array.getElem?_eq_some_iff.1 hW).1, fun j u hu => ?_⟩⟩
  have : j = 0 := by
    have := (List.getElem?_eq_some_iff.1 hu).1
    simp [u8s] at this
    omega
  subst this
  simp [u8s] at hu
  subst hu
  simp [World.cell?, Addr.add, hW]
theorem str_a : strOfNums [97] = { data := #[97] } := by
  first | rfl | kernel_rfl | decide
theorem byt_a : Byt [97] := by intro x hx; simp at hx; omega
set_option maxHeartbeats 8000000 in
set_option maxRecDepth 100000 in
theorem alive_any (w : World) : Calls Try.prog 7 #[] w fun e w' => e = .returned (.bool true) ∧ New w w' := by
  have kc := fun (w : World) (C : Array Value) (n c : Nat) => Lib.run_convert_bytes_const (P := Try.prog) w 33 5 C n c Try.underlying33 Try.underlying5
  go_enter Try.func7, Try.ntmps7
  go_wp2_with fail
  refine (new_ok 2 w.heap.size w (by decide) (by decide) (Nat.le_refl _)).mono ?_
  rintro e w1 ⟨rfl, b1, b2, hT, hN1⟩
  obtain ⟨g, hg⟩ : ∃ g, g = w.heap.size := ⟨_, rfl⟩
  have HT : Hid (Nt (fun _ => False) w1 w.heap.size g 2 (L0 b1) (L0 b2) 0) := Lib.hid (by rw [hg]; exact hT)
  have HN1 : Hid (New w w1) := Lib.hid hN1
  rw [← hg]
  clear hT hN1 hg
  go_wp2_with fail
  -- the first frame
  obtain ⟨w2, hw2⟩ : ∃ w2 : World, w2 = w1.alloc (.cells #[.int .u8 97] 5 (1, 2)) := ⟨_, rfl⟩
  have HN2 : Hid (New w1 w2) := Lib.hid (by rw [hw2]; exact New.al (New.refl w1) _)
  have HA2 := Lib.hid (show Rd (fun _ => True) w2 1 (some ⟨w1.heap.size, 0, none⟩) 1 (u8s [97]) from by rw [hw2]; exact lit_rd (New.refl _))
  rw [← hw2]
  clear hw2
  refine (send_in (HT.out.new HN2.out) false (some ⟨w1.heap.size, 0, none⟩) 1 1 [97] HA2.out byt_a (by decide) (by show 0 < 256; decide)).mono ?_
  rintro e w3 ⟨rfl, X3, l3, hT3, hL3, hS3, hF3, -, -⟩
  have HN3 : Hid (New w w3) := Lib.hid ((HN1.out.tr HN2.out).fr hF3 (fun k hk => (HT.out.ours hk).1))
  have HT3 : Hid (Nt X3 w3 w.heap.size g 2 l3 (L0 b2) 0) := Lib.hid hT3
  obtain ⟨x3, hx3, hxs3⟩ := one_frame (show l3.L.map Fm.xs = [[97]] from hL3)
  have hl3 : ∀ ys, l3.lost ys = 0 := fun ys => by rw [hS3]; rfl
  have HX3 := Lib.hid hx3
  have HXS3 := Lib.hid hxs3
  have HL3 := Lib.hid hl3
  clear hT3 hL3 hS3 hF3 hx3 hxs3 hl3
  go_wp2_with fail
  -- it is lost
  refine (lose_in HT3.out false 0 (by decide) (by decide) x3 (by decide) (by show l3.L[0 % l3.L.length]? = some x3; rw [HX3.out]; rfl)).mono ?_
  rintro e w4 ⟨-, h4⟩
  obtain ⟨rfl, l4, hT4, hL4, hS4, hF4, -⟩ := h4 (by show l3.lost x3.xs < 2 - 1; rw [HL3.out]; decide)
  have HN4 : Hid (New w w4) := Lib.hid (HN3.out.fr hF4 (fun k hk => (HT3.out.ours hk).1))
  have HT4 : Hid (Nt X3 w4 w.heap.size g 2 l4 (L0 b2) 1) := Lib.hid hT4
  have HL4 : Hid (l4.L = []) := Lib.hid (by
    rw [hL4]
    show l3.L.eraseIdx (0 % l3.L.length) = []
    rw [HX3.out]; rfl)
  have HS4 : Hid (∀ ys, l4.lost ys = if ys = [97] then 1 else 0) := Lib.hid (fun ys => by
    rw [hS4]
    show (if ys = x3.xs then l3.lost x3.xs + 1 else l3.lost ys) = _
    rw [HXS3.out, HL3.out, HL3.out]; rfl)
  clear h4 hT4 hL4 hS4 hF4
  go_wp2_with fail
  -- the second one
  obtain ⟨w5, hw5⟩ : ∃ w5 : World, w5 = w4.alloc (.cells #[.int .u8 97] 5 (1, 2)) := ⟨_, rfl⟩
  have HN5 : Hid (New w4 w5) := Lib.hid (by rw [hw5]; exact New.al (New.refl w4) _)
  have HA5 := Lib.hid (show Rd (fun _ => True) w5 1 (some ⟨w4.heap.size, 0, none⟩) 1 (u8s [97]) from by rw [hw5]; exact lit_rd (New.refl _))
  rw [← hw5]
  clear hw5
  refine (send_in (HT4.out.new HN5.out) false (some ⟨w4.heap.size, 0, none⟩) 1 1 [97] HA5.out byt_a (by decide) (by show l4.L.length < 256; rw [HL4.out]; decide)).mono ?_
  rintro e w6 ⟨rfl, X6, l6, hT6, hL6, hS6, hF6, -, -⟩
  have HN6 : Hid (New w w6) := Lib.hid ((HN4.out.tr HN5.out).fr hF6 (fun k hk => (HT4.out.ours hk).1))
  have HT6 : Hid (Nt X6 w6 w.heap.size g 2 l6 (L0 b2) 1) := Lib.hid hT6
  obtain ⟨x6, hx6, hxs6⟩ := one_frame (show l6.L.map Fm.xs = [[97]] from hL6.trans (by show l4.L.map Fm.xs ++ [[97]] = _; rw [HL4.out]; rfl))
  have hl6 : l6.lost [97] = 1 := by rw [hS6]; show l4.lost [97] = 1; rw [HS4.out]; rfl
  have HX6 := Lib.hid hx6
  have HXS6 := Lib.hid hxs6
  have HL6 := Lib.hid hl6
  clear hT6 hL6 hS6 hF6 hx6 hxs6 hl6
  go_wp2_with fail
  -- it is spared
  refine (lose_in HT6.out false 0 (by decide) (by decide) x6 (by decide) (by show l6.L[0 % l6.L.length]? = some x6; rw [HX6.out]; rfl)).mono ?_
  rintro e w7 ⟨h7, -⟩
  obtain ⟨rfl, hN7⟩ := h7 (by show 2 - 1 ≤ l6.lost x6.xs; rw [HXS6.out, HL6.out]; decide)
  have HN7 : Hid (New w6 w7) := Lib.hid hN7
  clear h7 hN7
  go_wp2_with fail
  refine (is_some 10 10 w7 (by decide)).mono ?_
  rintro e w' ⟨rfl, rfl⟩
  go_wp2_with fail
  -- it is taken
  refine (take_in (HT6.out.new HN7.out) false 7 (by decide) (by decide) (by show 0 < l6.L.length; rw [HX6.out]; exact Nat.zero_lt_one)).mono ?_
  rintro e w8 ⟨x8, l8, hx8, rfl, hT8, hL8, -, hR8, hb8, hF8, -⟩
  have ex : x8 = x6 := by
    have h : l6.L[7 % l6.L.length]? = some x8 := hx8
    rw [HX6.out] at h
    simp [Nat.mod_one] at h
    exact h.symm
  subst ex
  have HN8 : Hid (New w w8) := Lib.hid ((HN6.out.tr HN7.out).fr hF8 (fun k hk => (HT6.out.ours hk).1))
  have HT8 : Hid (Nt X6 w8 w.heap.size g 2 l8 (L0 b2) 1) := Lib.hid hT8
  have hl8 : l8.L = [] := by
    rw [hL8]
    show l6.L.eraseIdx (7 % l6.L.length) = []
    rw [HX6.out]; simp [Nat.mod_one]
  have hcv := run_conv (c := x8.c) hR8
  rw [HXS6.out, str_a] at hcv
  have hlen := len_in HT8.out false
  have HLN : Hid (Calls Try.prog _ #[.pointer (some ⟨g, 0, none⟩), .int .i64 1] w8 fun e w' => e = .returned (.int .i64 0) ∧ w8 = w') := Lib.hid (by
    rw [show (sel false l8 (L0 b2)).L.length = 0 from by show l8.L.length = 0; rw [hl8]; rfl] at hlen
    exact hlen)
  clear hx8 hT8 hL8 hR8 hb8 hF8 hl8 hlen HX6
  simp only [Fm.val]
  go_wp2_with fail
  refine HLN.out.mono ?_
  rintro e w' ⟨rfl, rfl⟩
  go_wp2_with fail
  go_ret
  exact ⟨rfl, HN8.out⟩
end Go.Proofs.Ytajoahhjgloefaa
