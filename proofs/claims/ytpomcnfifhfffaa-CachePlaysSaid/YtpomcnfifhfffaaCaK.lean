/- The cache: Len, Sessions. No condition but the cache's own. -/
import Derived.Test.YtpomcnfifhfffaaCaF
namespace Go.Proofs.Ytpomcnfifhfffaa
open Go.RowKit Go.Maps

theorem len_out (base g : Nat) (v : Value) (bm m : Nat) (f : Lit → Option Value) (S : List Ses) (N : Nat) (a : Int) (w : World) (h : Ca w base g v bm m f S N) (hs : a ∉ S.map Ses.id) (ha : 0 ≤ a ∧ a < 18446744073709551616) :
    Calls Try.prog 12 #[.pointer (some ⟨g, 0, none⟩), .int .u64 a] w fun e w' => e = .returned (.int .i64 0) ∧ w = w' := by
  have hrun := (h.ring.map.look Ro.keyU Try.underlying50 (z := .pointer none) (by kernel_rfl) (Ro.key_of ha)).2
  rw [h.fnone hs, Option.getD_none] at hrun
  have i1 : w.cell? ⟨g, 1, none⟩ = some (.map (some bm)) := h.ring.blk.cell 1
  clear h hs ha
  go_enter Try.func12, Try.ntmps12
  go_wp2_with fail
  go_ret
  exact ⟨rfl, rfl⟩
theorem len_in (base g : Nat) (v : Value) (bm m : Nat) (f : Lit → Option Value) (S : List Ses) (N : Nat) (s : Ses) (w : World) (h : Ca w base g v bm m f S N) (hs : s ∈ S) :
    Calls Try.prog 12 #[.pointer (some ⟨g, 0, none⟩), .int .u64 s.id] w fun e w' => e = .returned (.int .i64 s.R.length) ∧ w = w' := by
  have hi := (h.ins s hs).1
  have ha := h.ring.wf s.id (List.mem_map_of_mem hs)
  have hrun := (h.ring.map.look Ro.keyU Try.underlying50 (z := .pointer none) (by kernel_rfl) (Ro.key_of ha)).2
  rw [h.ptr s hs, Option.getD_some] at hrun
  obtain ⟨A, c, hv, -⟩ := own_shape hi.ring.own
  have i1 : w.cell? ⟨g, 1, none⟩ = some (.map (some bm)) := h.ring.blk.cell 1
  have i2 : w.cell? ⟨s.g, 0, none⟩ = some s.v := hi.ring.blk.cell 0
  rw [hv, List.length_map] at i2
  clear h hs hi ha hv
  generalize s.R.length = nl at i2 ⊢
  go_enter Try.func12, Try.ntmps12
  go_wp2_with fail
  go_ret
  exact ⟨rfl, rfl⟩
theorem sess_any (base g : Nat) (v : Value) (bm m : Nat) (f : Lit → Option Value) (S : List Ses) (N : Nat) (w : World) (h : Ca w base g v bm m f S N) :
    Calls Try.prog 13 #[.pointer (some ⟨g, 0, none⟩)] w fun e w' => (∃ A' c', e = .returned (.slice A' S.length c') ∧ w'.ownsRow w.heap.size 23 1 (.slice A' S.length c') S.length (u64s (S.map Ses.id))) ∧ New w w' := by
  obtain ⟨A, c, hv, -⟩ := own_shape h.ring.own
  have i0 : w.cell? ⟨g, 0, none⟩ = some v := h.ring.blk.cell 0
  have hlen := h.len
  have HR := Lib.hid (Rd.own h.ring.own hv)
  have HO := Lib.hid (own_lt h.ring.own)
  rw [List.length_map] at HR
  rw [hv, List.length_map] at i0
  clear h hv
  go_enter Try.func13, Try.ntmps13
  go_wp2_with fail
  refine (clone_any A S.length c (S.map Ses.id) w (rd_szs HR.out) (by omega)).mono ?_
  rintro e w1 ⟨⟨A1, c1, rfl, hO1⟩, hN1⟩
  have HN1 : Hid (New w w1) := Lib.hid hN1
  have HO1 := Lib.hid hO1
  clear hN1 hO1
  go_wp2_with fail
  go_ret
  exact ⟨⟨A1, c1, rfl, HO1.out⟩, HN1.out⟩
end Go.Proofs.Ytpomcnfifhfffaa
