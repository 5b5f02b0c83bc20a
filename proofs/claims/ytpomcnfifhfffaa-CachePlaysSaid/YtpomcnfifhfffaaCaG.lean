/- The law's alive: it answers true. No condition. -/
import Derived.Test.YtpomcnfifhfffaaCaF
import Derived.Lib.SlBytesConst
namespace Go.Proofs.Ytpomcnfifhfffaa
open Go.RowKit Go.Maps

/-- A literal's bytes. -/
theorem lit_rd {base : Nat} {w W : World} {x : Int} (hN : New (w.alloc (.cells #[.int .u8 x] 5 (1, 2))) W) : Rd (Out base W) W 1 (some ⟨w.heap.size, 0, none⟩) 1 (u8s [x]) := by
  have hb : (w.alloc (.cells #[.int .u8 x] 5 (1, 2))).heap[w.heap.size]? = some (.cells #[.int .u8 x] 5 (1, 2)) := by
    show (w.heap.push _)[w.heap.size]? = _
    simp
  have hW : W.heap[w.heap.size]? = some (.cells #[.int .u8 x] 5 (1, 2)) := (hN.block _ (by simp)).trans hb
  refine ⟨rfl, fun _ => ⟨_, rfl, .inr ⟨_, _, hW⟩, (Array.getElem?_eq_some_iff.1 hW).1, fun j u hu => ?_⟩⟩
  have : j = 0 := by
    have := (List.getElem?_eq_some_iff.1 hu).1
    simp [u8s] at this
    omega
  subst this
  simp [u8s] at hu
  subst hu
  simp [World.cell?, Addr.add, hW]
theorem str_b : strOfNums [98] = { data := #[98] } := by
  first | rfl | kernel_rfl | decide

set_option maxHeartbeats 2000000 in
theorem alive_any (w : World) : Calls Try.prog 6 #[] w fun e w' => e = .returned (.bool true) ∧ New w w' := by
  have kc := fun (w : World) (C : Array Value) (n c : Nat) => Lib.run_convert_bytes_const (P := Try.prog) w 24 5 C n c Try.underlying24 Try.underlying5
  have kc2 : ∀ (w : World) (o : Obj) (C : Array Value) (n c : Nat), (convert 24 24 (.slice (some ⟨w.heap.size + 1, 0, none⟩) n c)).run Try.prog ((w.alloc o).alloc (.cells C 5)) = .ok (.slice (some ⟨w.heap.size + 1, 0, none⟩) n c) ((w.alloc o).alloc (.cells C 5 (C.size, C.size + 1))) := fun w o C n c => by
    have := kc (w.alloc o) C n c
    simpa using this
  go_enter Try.func6, Try.ntmps6
  go_wp2_with fail
  refine (cnew_any w.heap.size w (Nat.le_refl _)).mono ?_
  rintro e w1 ⟨rfl, hC1, hN1⟩
  have HN1 := Lib.hid hN1
  have HC1 := Lib.hid hC1
  clear hN1 hC1
  go_wp2_with fail
  obtain ⟨w2, hw2⟩ : ∃ w2 : World, w2 = (w1.alloc (.cells #[.int .u8 97] 5 (1, 2))).alloc (.cells #[.int .u8 98] 5 (1, 2)) := ⟨_, rfl⟩
  have HN12 : Hid (New w1 w2) := Lib.hid (by rw [hw2]; exact New.al (New.al (New.refl w1) _) _)
  have HA2 : Hid (Rd (Out w.heap.size w2) w2 1 (some ⟨w1.heap.size, 0, none⟩) 1 (u8s [97])) := Lib.hid (lit_rd (by rw [hw2]; exact New.al (New.refl _) _))
  have HB2 : Hid (Rd (Out w.heap.size w2) w2 1 (some ⟨w1.heap.size + 1, 0, none⟩) 1 (u8s [98])) := Lib.hid (by
    have := lit_rd (base := w.heap.size) (x := 98) (New.refl ((w1.alloc (.cells #[.int .u8 97] 5 (1, 2))).alloc (.cells #[.int .u8 98] 5 (1, 2))))
    rw [← hw2] at this
    simpa using this)
  try rw [← hw2]
  clear hw2
  have h0 := HN1.out.size
  refine (keep_new w.heap.size (w.heap.size + 1) (.slice none 0 0) w.heap.size 0 (fun _ => none) [] 0 1 2 (some ⟨w1.heap.size, 0, none⟩) (some ⟨w1.heap.size + 1, 0, none⟩) 1 1 1 1 [97] [98] w2 (HC1.out.new HN12.out) (by simp) (by omega) (by omega) (by omega)
    HA2.out HB2.out (by intro x hx; simp at hx; omega) (by intro x hx; simp at hx; omega) (by omega) (by omega)).mono ?_
  rintro e w3 ⟨rfl, v3, f3, s3, hC3, hid3, hR3, hF3, -, -⟩
  have HN3 : Hid (New w w3) := Lib.hid ((HN1.out.tr HN12.out).fr hF3 (fun k hk => hk.1))
  have HC3 := Lib.hid hC3
  have HI3 := Lib.hid hid3
  have HR3 : Hid (⟨2, [97], [98]⟩ ∈ s3.R) := Lib.hid (by rw [hR3]; simp [keepR, keptL])
  clear hC3 hid3 hR3 hF3 HA2 HB2 HN12 HC1
  go_wp2_with fail
  obtain ⟨w4, hw4⟩ : ∃ w4 : World, w4 = w3.alloc (.cells #[.int .u8 97] 5 (1, 2)) := ⟨_, rfl⟩
  have HN34 : Hid (New w3 w4) := Lib.hid (by rw [hw4]; exact New.al (New.refl w3) _)
  have HA4 : Hid (Rd (Out w.heap.size w4) w4 1 (some ⟨w3.heap.size, 0, none⟩) 1 (u8s [97])) := Lib.hid (lit_rd (by rw [hw4]; exact New.refl _))
  try rw [← hw4]
  clear hw4
  have hf4 := find_hit w.heap.size (w.heap.size + 1) v3 w.heap.size _ f3 _ _ s3 ⟨2, [97], [98]⟩ (some ⟨w3.heap.size, 0, none⟩) 1 1 [97] w4 (HC3.out.new HN34.out) (by simp) HR3.out HA4.out (by intro x hx; simp at hx; omega) rfl
  rw [HI3.out] at hf4
  refine hf4.mono ?_
  clear hf4
  rintro e w5 ⟨⟨A5, n5, c5, rfl, hO5, hn5⟩, hN5⟩
  have HN5 : Hid (New w4 w5) := Lib.hid hN5
  have HC5 := Lib.hid ((HC3.out.new HN34.out).new HN5.out)
  have HO5 := Lib.hid hO5
  clear hN5 hO5
  go_wp2_with fail
  obtain ⟨w6, hw6⟩ : ∃ w6 : World, w6 = w5.alloc (.cells #[.int .u8 99] 5 (1, 2)) := ⟨_, rfl⟩
  have HN56 : Hid (New w5 w6) := Lib.hid (by rw [hw6]; exact New.al (New.refl w5) _)
  have HA6 : Hid (Rd (Out w.heap.size w6) w6 1 (some ⟨w5.heap.size, 0, none⟩) 1 (u8s [99])) := Lib.hid (lit_rd (by rw [hw6]; exact New.refl _))
  try rw [← hw6]
  clear hw6
  have hf6 := find_diff w.heap.size (w.heap.size + 1) v3 w.heap.size _ f3 _ _ s3 ⟨2, [97], [98]⟩ (some ⟨w5.heap.size, 0, none⟩) 1 1 [99] w6 (HC5.out.new HN56.out) (by simp) HR3.out HA6.out (by intro x hx; simp at hx; omega) (by simp)
  rw [HI3.out] at hf6
  refine hf6.mono ?_
  clear hf6
  rintro e w7 ⟨rfl, hN7⟩
  have HN7 : Hid (New w w7) := Lib.hid ((((HN3.out.tr HN34.out).tr HN5.out).tr HN56.out).tr hN7)
  have hcs := run_conv (c := c5) ((HO5.out.fr ((HN56.out.tr hN7).toFr NoB) (fun _ x => x.elim)).1)
  rw [str_b] at hcs
  clear hN7
  go_wp2_with fail
  go_ret
  exact ⟨rfl, HN7.out⟩
end Go.Proofs.Ytpomcnfifhfffaa
