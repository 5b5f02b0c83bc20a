/- The cache: Find, and what a nil cache answers. No condition but the cache's own. -/
import Derived.Test.YtpomcnfifhfffaaCaA
namespace Go.Proofs.Ytpomcnfifhfffaa
open Go.RowKit Go.Maps

theorem find_nil (a q : Int) (x : Value) (w : World) : Calls Try.prog 10 #[.pointer none, .int .u64 a, .int .u64 q, x] w fun e w' => e = .returned (.tuple #[.slice none 0 0, .bool false]) ∧ w = w' := by
  go_enter Try.func10, Try.ntmps10
  go_wp2_with fail
  exact bodyPost_ret (v := .tuple #[.slice none 0 0, .bool false]) (by simp [results, Try.results10, go_sem]) rfl ⟨rfl, rfl⟩
theorem len_nil (a : Int) (w : World) : Calls Try.prog 12 #[.pointer none, .int .u64 a] w fun e w' => e = .returned (.int .i64 0) ∧ w = w' := by
  go_enter Try.func12, Try.ntmps12
  go_wp2_with fail
  go_ret
  exact ⟨rfl, rfl⟩
theorem sess_nil (w : World) : Calls Try.prog 13 #[.pointer none] w fun e w' => e = .returned (.slice none 0 0) ∧ w = w' := by
  go_enter Try.func13, Try.ntmps13
  go_wp2_with fail
  go_ret
  exact ⟨rfl, rfl⟩
theorem drop_nil (a : Int) (w : World) : Calls Try.prog 14 #[.pointer none, .int .u64 a] w fun e w' => e = .returned (.bool false) ∧ w = w' := by
  go_enter Try.func14, Try.ntmps14
  go_wp2_with fail
  go_ret
  exact ⟨rfl, rfl⟩

theorem Ca.fnone {w : World} {base g : Nat} {v : Value} {bm m : Nat} {f : Lit → Option Value} {S : List Ses} {N : Nat} (h : Ca w base g v bm m f S N) {a : Int} (hs : a ∉ S.map Ses.id) : f (.int .u64 a) = none := by
  rcases hx : f (.int .u64 a) with _ | y
  · rfl
  · obtain ⟨x, hx1, hx2⟩ := h.ring.dom (.int .u64 a) (by rw [hx]; simp)
    injection hx2 with _ hx2
    exact absurd (hx2 ▸ hx1) hs
theorem SesIn.fnone {w : World} {base : Nat} {s : Ses} (h : SesIn w base s) {a : Int} (hs : a ∉ s.R.map Rep.seq) : s.f (.int .u64 a) = none := by
  rcases hx : s.f (.int .u64 a) with _ | y
  · rfl
  · obtain ⟨x, hx1, hx2⟩ := h.ring.dom (.int .u64 a) (by rw [hx]; simp)
    injection hx2 with _ hx2
    exact absurd (hx2 ▸ hx1) hs

theorem find_hit (base g : Nat) (v : Value) (bm m : Nat) (f : Lit → Option Value) (S : List Ses) (N : Nat) (s : Ses) (r : Rep) (A : Option Addr) (n c : Nat) (rq : List Int) (w : World) (h : Ca w base g v bm m f S N) (hs : s ∈ S) (hr : r ∈ s.R)
    (hA : Rd (Out base w) w 1 A n (u8s rq)) (ba : Byt rq) (he : r.req = rq) :
    Calls Try.prog 10 #[.pointer (some ⟨g, 0, none⟩), .int .u64 s.id, .int .u64 r.seq, .slice A n c] w fun e w' => (∃ A' n' c', e = .returned (.tuple #[.slice A' n' c', .bool true]) ∧ RdB w' A' n' r.rep ∧ n' ≤ 1000000) ∧ New w w' := by
  have hi := (h.ins s hs).1
  have ha := h.ring.wf s.id (List.mem_map_of_mem hs)
  have hq := hi.ring.wf r.seq (List.mem_map_of_mem hr)
  have hrun := (h.ring.map.look Ro.keyU Try.underlying50 (z := .pointer none) (by kernel_rfl) (Ro.key_of ha)).2
  rw [h.ptr s hs, Option.getD_some] at hrun
  have hrun2 := (hi.ring.map.look Ri.keyU Try.underlying56 (z := .agg #[.slice none 0 0, .slice none 0 0]) (by kernel_rfl) (Ri.key_of hq)).1
  obtain ⟨B, k, d, B', k', d', e1, e2, e3, e4, e5⟩ := hi.reads r hr
  rw [e1, Option.getD_some, Option.isSome_some] at hrun2
  have i1 : w.cell? ⟨g, 1, none⟩ = some (.map (some bm)) := h.ring.blk.cell 1
  have i2 : w.cell? ⟨s.g, 1, none⟩ = some (.map (some s.bm)) := hi.ring.blk.cell 1
  have HA := Lib.hid hA
  have HB := Lib.hid e2
  have HB' := Lib.hid e3
  have HBA := Lib.hid ba
  have HE := Lib.hid he
  clear h hs hr hA ba hi ha hq e1 e2 e3 he
  go_enter Try.func10, Try.ntmps10
  go_wp2_with fail
  obtain ⟨w0, hw0⟩ : ∃ w0 : World, w0 = w.alloc (.cells #[.slice B k d, .slice B' k' d'] 62) := ⟨_, rfl⟩
  have HN0 : Hid (New w w0) := Lib.hid (by rw [hw0]; exact New.al (New.refl w) _)
  have hb0 : Blk w0 w.heap.size 62 #[.slice B k d, .slice B' k' d'] := by rw [hw0]; exact Blk.new _ _ _
  rw [← hw0]
  clear hw0
  have HA0 := Lib.hid ((CF.new HN0.out).rd HA.out)
  have HB0 := Lib.hid (HB.out.fr (HN0.out.toFr NoB) (fun _ x => x.elim))
  have HB0' := Lib.hid (HB'.out.fr (HN0.out.toFr NoB) (fun _ x => x.elim))
  have j1 := hb0.cell 1
  have HE' : Hid (decide (r.req = rq) = true) := Lib.hid (decide_eq_true HE.out)
  clear hb0 hrun hrun2 i1 i2
  refine (equal_any B A k n d c r.req rq w0 HB0.out.1 HA0.out HB0.out.2 HBA.out).mono ?_
  rw [HE'.out]
  rintro e w1 ⟨rfl, rfl⟩
  go_wp2_with fail
  refine (bclone_any B' k' d' r.rep w0 (rd_szs HB0'.out.1) e5).mono ?_
  rintro e w2 ⟨⟨A2, c2, rfl, hO2⟩, hN2⟩
  have HN2 : Hid (New w w2) := Lib.hid (HN0.out.tr hN2)
  have HO2 := Lib.hid (RdB.own hO2 HB'.out.2)
  clear hO2 hN2
  go_wp2_with fail
  exact bodyPost_ret (v := .tuple #[.slice A2 k' c2, .bool true]) (by simp [results, Try.results10, go_sem]) rfl ⟨⟨A2, k', c2, rfl, HO2.out, e5⟩, HN2.out⟩
theorem find_diff (base g : Nat) (v : Value) (bm m : Nat) (f : Lit → Option Value) (S : List Ses) (N : Nat) (s : Ses) (r : Rep) (A : Option Addr) (n c : Nat) (rq : List Int) (w : World) (h : Ca w base g v bm m f S N) (hs : s ∈ S) (hr : r ∈ s.R)
    (hA : Rd (Out base w) w 1 A n (u8s rq)) (ba : Byt rq) (he : ¬ r.req = rq) :
    Calls Try.prog 10 #[.pointer (some ⟨g, 0, none⟩), .int .u64 s.id, .int .u64 r.seq, .slice A n c] w fun e w' => e = .returned (.tuple #[.slice none 0 0, .bool false]) ∧ New w w' := by
  have hi := (h.ins s hs).1
  have ha := h.ring.wf s.id (List.mem_map_of_mem hs)
  have hq := hi.ring.wf r.seq (List.mem_map_of_mem hr)
  have hrun := (h.ring.map.look Ro.keyU Try.underlying50 (z := .pointer none) (by kernel_rfl) (Ro.key_of ha)).2
  rw [h.ptr s hs, Option.getD_some] at hrun
  have hrun2 := (hi.ring.map.look Ri.keyU Try.underlying56 (z := .agg #[.slice none 0 0, .slice none 0 0]) (by kernel_rfl) (Ri.key_of hq)).1
  obtain ⟨B, k, d, B', k', d', e1, e2, e3, e4, e5⟩ := hi.reads r hr
  rw [e1, Option.getD_some, Option.isSome_some] at hrun2
  have i1 : w.cell? ⟨g, 1, none⟩ = some (.map (some bm)) := h.ring.blk.cell 1
  have i2 : w.cell? ⟨s.g, 1, none⟩ = some (.map (some s.bm)) := hi.ring.blk.cell 1
  have HA := Lib.hid hA
  have HB := Lib.hid e2
  have HB' := Lib.hid e3
  have HBA := Lib.hid ba
  have HE := Lib.hid he
  clear h hs hr hA ba hi ha hq e1 e2 e3 he
  go_enter Try.func10, Try.ntmps10
  go_wp2_with fail
  obtain ⟨w0, hw0⟩ : ∃ w0 : World, w0 = w.alloc (.cells #[.slice B k d, .slice B' k' d'] 62) := ⟨_, rfl⟩
  have HN0 : Hid (New w w0) := Lib.hid (by rw [hw0]; exact New.al (New.refl w) _)
  have hb0 : Blk w0 w.heap.size 62 #[.slice B k d, .slice B' k' d'] := by rw [hw0]; exact Blk.new _ _ _
  rw [← hw0]
  clear hw0
  have HA0 := Lib.hid ((CF.new HN0.out).rd HA.out)
  have HB0 := Lib.hid (HB.out.fr (HN0.out.toFr NoB) (fun _ x => x.elim))
  have HB0' := Lib.hid (HB'.out.fr (HN0.out.toFr NoB) (fun _ x => x.elim))
  have j1 := hb0.cell 1
  have HE' : Hid (decide (r.req = rq) = false) := Lib.hid (decide_eq_false HE.out)
  clear hb0 hrun hrun2 i1 i2
  refine (equal_any B A k n d c r.req rq w0 HB0.out.1 HA0.out HB0.out.2 HBA.out).mono ?_
  rw [HE'.out]
  rintro e w1 ⟨rfl, rfl⟩
  go_wp2_with fail
  go_ret2
  exact ⟨rfl, HN0.out⟩

theorem find_out (base g : Nat) (v : Value) (bm m : Nat) (f : Lit → Option Value) (S : List Ses) (N : Nat) (a q : Int) (x : Value) (w : World) (h : Ca w base g v bm m f S N) (hs : a ∉ S.map Ses.id) (ha : 0 ≤ a ∧ a < 18446744073709551616) :
    Calls Try.prog 10 #[.pointer (some ⟨g, 0, none⟩), .int .u64 a, .int .u64 q, x] w fun e w' => e = .returned (.tuple #[.slice none 0 0, .bool false]) ∧ w = w' := by
  have hrun := (h.ring.map.look Ro.keyU Try.underlying50 (z := .pointer none) (by kernel_rfl) (Ro.key_of ha)).2
  rw [h.fnone hs, Option.getD_none] at hrun
  have i1 : w.cell? ⟨g, 1, none⟩ = some (.map (some bm)) := h.ring.blk.cell 1
  clear h hs ha
  go_enter Try.func10, Try.ntmps10
  go_wp2_with fail
  go_ret2
  exact ⟨rfl, rfl⟩
theorem find_un (base g : Nat) (v : Value) (bm m : Nat) (f : Lit → Option Value) (S : List Ses) (N : Nat) (s : Ses) (q : Int) (x : Value) (w : World) (h : Ca w base g v bm m f S N) (hs : s ∈ S) (hr : q ∉ s.R.map Rep.seq) (hq : 0 ≤ q ∧ q < 18446744073709551616) :
    Calls Try.prog 10 #[.pointer (some ⟨g, 0, none⟩), .int .u64 s.id, .int .u64 q, x] w fun e w' => e = .returned (.tuple #[.slice none 0 0, .bool false]) ∧ New w w' := by
  have hi := (h.ins s hs).1
  have ha := h.ring.wf s.id (List.mem_map_of_mem hs)
  have hrun := (h.ring.map.look Ro.keyU Try.underlying50 (z := .pointer none) (by kernel_rfl) (Ro.key_of ha)).2
  rw [h.ptr s hs, Option.getD_some] at hrun
  have hrun2 := (hi.ring.map.look Ri.keyU Try.underlying56 (z := .agg #[.slice none 0 0, .slice none 0 0]) (by kernel_rfl) (Ri.key_of hq)).1
  rw [hi.fnone hr, Option.getD_none, Option.isSome_none] at hrun2
  have i1 : w.cell? ⟨g, 1, none⟩ = some (.map (some bm)) := h.ring.blk.cell 1
  have i2 : w.cell? ⟨s.g, 1, none⟩ = some (.map (some s.bm)) := hi.ring.blk.cell 1
  clear h hs hr hi ha hq
  go_enter Try.func10, Try.ntmps10
  go_wp2_with fail
  go_ret2
  exact ⟨rfl, New.al (New.refl w) _⟩
end Go.Proofs.Ytpomcnfifhfffaa
