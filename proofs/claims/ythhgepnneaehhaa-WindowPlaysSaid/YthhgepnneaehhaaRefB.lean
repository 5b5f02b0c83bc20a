/- The reference's windows: Answer, Renew. No condition. -/
import Derived.Test.YthhgepnneaehhaaRef
namespace Go.Proofs.Ythhgepnneaehhaa.Rf
open Go.Proofs.Ythhgepnneaehhaa
open Go.RowKit

theorem rd_lt {w w0 : World} {s n : Nat} {A : Option Addr} {xs : List Value} (h : Rd (fun b => b < w.heap.size) w s A n xs) (hn : New w w0) : Rd (fun b => b < w0.heap.size) w0 s A n xs :=
  (hn.rd h).imp fun _ hk => Nat.lt_of_lt_of_le hk hn.size

theorem answer_no (A : Option Addr) (n c : Nat) (nx a x : Int) (L : List Wt) (w : World) (hL : L.length = n) (hR : Rd (fun b => b < w.heap.size) w 4 A n (flat L)) (hn : n ≤ 1000)
    (hno : placeI L a = -1 ∨ ∃ i : Nat, ∃ hi : i < L.length, placeI L a = i ∧ L[i].done = true) :
    Calls Try.prog 16 #[.agg #[.slice A n c, .int .u64 nx], .int .u64 a, .int .i64 x] w fun e w' => e = .returned (.tuple #[.agg #[.slice A n c, .int .u64 nx], .bool false]) ∧ New w w' := by
  have HL := Lib.hid hL
  have HR := Lib.hid hR
  clear hL hR
  go_enter Try.func16, Try.ntmps16
  go_wp2_with fail
  obtain ⟨w0, hw0⟩ : ∃ w0 : World, w0 = (w.alloc (.cells #[.slice A n c, .int .u64 nx] 49)).alloc (.cells #[.slice none 0 0, .int .u64 0] 49) := ⟨_, rfl⟩
  have c0 : w0.cell? ⟨w.heap.size, 0, none⟩ = some (.slice A n c) := by rw [hw0]; simp
  have c1 : w0.cell? ⟨w.heap.size, 1, none⟩ = some (.int .u64 nx) := by rw [hw0]; simp
  have HN0 : Hid (New w w0) := Lib.hid (by rw [hw0]; exact (New.al (New.al (New.refl _) _) _))
  have HK4 : Hid (Blk w0 (w.heap.size + 1) 49 #[.slice none 0 0, .int .u64 0]) := Lib.hid (by
    rw [hw0]
    exact Blk.new' _ _ _ (by simp))
  rw [← hw0]
  clear hw0
  refine (place_any A n c nx a L w0 HL.out (rd_lt HR.out HN0.out) hn).mono ?_
  rintro e w1 ⟨rfl, hN1⟩
  have d0 := New.cell_ hN1 c0
  have d1 := New.cell_ hN1 c1
  have hK1 := New.blk hN1 HK4.out
  have e0 := hK1.cell 0
  have e1 := hK1.cell 1
  have f0 := hK1.frozen 0
  have f1 := hK1.frozen 1
  have HR1 := Lib.hid (rd_lt (rd_lt HR.out HN0.out) hN1)
  have HN1 := Lib.hid hN1
  have HK1 := Lib.hid hK1
  clear hN1 hK1 c0 c1 HK4 HR
  have hK6 := blk_set2 HK1.out (.slice A n c) (.int .u64 nx)
  have h60 := hK6.cell 0
  have h61 := hK6.cell 1
  simp at h60 h61
  have HE : Hid (New w ((w1.setCell ⟨w.heap.size + 1, 0, none⟩ (.slice A n c)).setCell ⟨w.heap.size + 1, 1, none⟩ (.int .u64 nx))) := Lib.hid (((HN0.out.tr HN1.out).set (by simp) _).set (by simp) _)
  clear hK6
  rcases hno with hq | ⟨i, hi, hq, hd⟩
  · rw [hq]
    clear hq
    go_wp2_with fail
    refine bodyPost_ret (v := .tuple #[.agg #[.slice A n c, .int .u64 nx], .bool false]) (by simp [results, Try.results16, go_sem, h60, h61]) rfl ⟨rfl, HE.out⟩
  · rw [hq]
    obtain ⟨g, o, hl, rfl, hpb, hbb, k0, k1, k2, k3⟩ := rd_elem HR1.out (i := i) (by rw [← HL.out]; exact hi)
    rw [hd] at k3
    have hin : i < n := by rw [← HL.out]; exact hi
    clear hq hd k0 k1 k2 hi
    go_wp2_with fail
    refine bodyPost_ret (v := .tuple #[.agg #[.slice (some ⟨g, o, none⟩) n c, .int .u64 nx], .bool false]) (by simp [results, Try.results16, go_sem, h60, h61]) rfl ⟨rfl, HE.out⟩

section
variable {w : World} {base b n c : Nat} {L : List Wt}
theorem own_store2 (h : w.ownsRow base 59 4 (.slice (some ⟨b, 0, none⟩) n c) n (flat L)) {i : Nat} (hi : i < L.length) (x : Wt) (hn : x.num = L[i].num) (ht : x.thing = L[i].thing) :
    ((w.setCell ⟨b, i * 4 + 2, none⟩ (.int .i64 x.ans)).setCell ⟨b, i * 4 + 3, none⟩ (.bool x.done)).ownsRow base 59 4 (.slice (some ⟨b, 0, none⟩) n c) n (flat (L.set i x)) := by
  have h2 := ((h.stored (i * 4 + 2) (.int .i64 x.ans)).1.stored (i * 4 + 3) (.bool x.done)).1
  rw [flat_set L i hi x hn ht] at h2
  exact h2
theorem own_store4 (h : w.ownsRow base 59 4 (.slice (some ⟨b, 0, none⟩) n c) n (flat L)) {i : Nat} (hi : i < L.length) (x : Wt) :
    ((((w.setCell ⟨b, i * 4, none⟩ (.int .u64 x.num)).setCell ⟨b, i * 4 + 1, none⟩ x.thing).setCell ⟨b, i * 4 + 2, none⟩ (.int .i64 x.ans)).setCell ⟨b, i * 4 + 3, none⟩ (.bool x.done)).ownsRow base 59 4 (.slice (some ⟨b, 0, none⟩) n c) n (flat (L.set i x)) := by
  have h4 := ((((h.stored (i * 4) (.int .u64 x.num)).1.stored (i * 4 + 1) x.thing).1.stored (i * 4 + 2) (.int .i64 x.ans)).1.stored (i * 4 + 3) (.bool x.done)).1
  rw [flat_setAll L i hi x] at h4
  exact h4
theorem own_row (h : w.ownsRow base 59 4 (.slice (some ⟨b, 0, none⟩) n c) n (flat L)) (hL : L.length = n) {i : Nat} (hi : i < L.length) :
    w.cell? ⟨b, i * 4, none⟩ = some (.int .u64 L[i].num) ∧ w.cell? ⟨b, i * 4 + 1, none⟩ = some L[i].thing ∧ w.cell? ⟨b, i * 4 + 2, none⟩ = some (.int .i64 L[i].ans) ∧ w.cell? ⟨b, i * 4 + 3, none⟩ = some (.bool L[i].done) ∧
      w.frozen? ⟨b, i * 4, none⟩ = false ∧ w.frozen? ⟨b, i * 4 + 1, none⟩ = false ∧ w.frozen? ⟨b, i * 4 + 2, none⟩ = false ∧ w.frozen? ⟨b, i * 4 + 3, none⟩ = false := by
  refine ⟨?_, ?_, ?_, ?_, h.frozenAt _, h.frozenAt _, h.frozenAt _, h.frozenAt _⟩
  · rw [h.cellAt (i * 4) (by omega), show i * 4 = i * 4 + 0 from rfl, flat_get L i 0 hi (by omega)]; rfl
  · rw [h.cellAt (i * 4 + 1) (by omega), flat_get L i 1 hi (by omega)]; rfl
  · rw [h.cellAt (i * 4 + 2) (by omega), flat_get L i 2 hi (by omega)]; rfl
  · rw [h.cellAt (i * 4 + 3) (by omega), flat_get L i 3 hi (by omega)]; rfl
end

set_option maxHeartbeats 1000000 in
theorem answer_yes (A : Option Addr) (n c : Nat) (nx a x : Int) (L : List Wt) (w : World) (hL : L.length = n) (hR : Rd (fun b => b < w.heap.size) w 4 A n (flat L)) (h1 : ∀ u ∈ flat L, u.oneCell' = true) (hn : n ≤ 1000)
    (i : Nat) (hi : i < L.length) (hq : placeI L a = i) (hd : L[i].done = false) :
    Calls Try.prog 16 #[.agg #[.slice A n c, .int .u64 nx], .int .u64 a, .int .i64 x] w fun e w' => (∃ v, e = .returned (.tuple #[v, .bool true]) ∧ RWin w.heap.size w' v (L.set i { L[i] with ans := x, done := true }) nx) ∧ New w w' := by
  have HL := Lib.hid hL
  have HR := Lib.hid hR
  have H1 := Lib.hid h1
  clear hL hR h1
  go_enter Try.func16, Try.ntmps16
  go_wp2_with fail
  obtain ⟨w0, hw0⟩ : ∃ w0 : World, w0 = (w.alloc (.cells #[.slice A n c, .int .u64 nx] 49)).alloc (.cells #[.slice none 0 0, .int .u64 0] 49) := ⟨_, rfl⟩
  have c0 : w0.cell? ⟨w.heap.size, 0, none⟩ = some (.slice A n c) := by rw [hw0]; simp
  have c1 : w0.cell? ⟨w.heap.size, 1, none⟩ = some (.int .u64 nx) := by rw [hw0]; simp
  have HSZ : Hid (w0.heap.size = w.heap.size + 2) := Lib.hid (by rw [hw0]; simp)
  have HN0 : Hid (New w w0) := Lib.hid (by rw [hw0]; exact (New.al (New.al (New.refl _) _) _))
  have HK4 : Hid (Blk w0 (w.heap.size + 1) 49 #[.slice none 0 0, .int .u64 0]) := Lib.hid (by
    rw [hw0]
    exact Blk.new' _ _ _ (by simp))
  rw [← hw0]
  clear hw0
  refine (place_any A n c nx a L w0 HL.out (rd_lt HR.out HN0.out) hn).mono ?_
  rw [hq]
  clear hq
  rintro e w1 ⟨rfl, hN1⟩
  have d0 := New.cell_ hN1 c0
  have HR1 := Lib.hid (rd_lt (rd_lt HR.out HN0.out) hN1)
  have HN1 := Lib.hid hN1
  have HC1 := Lib.hid c1
  have hin : i < n := by rw [← HL.out]; exact hi
  clear hN1 c0 c1 HR
  obtain ⟨g, o, hl, rfl, hpb, hbb, k0, k1, k2, k3⟩ := rd_elem HR1.out (i := i) hin
  rw [hd] at k3
  have HI : Hid (i < L.length) := Lib.hid hi
  have d0a := (New.al (New.refl w1) (.cells #[] 59)).cell_ d0
  clear k0 k1 k2
  go_wp2_with (at_builtin; refine wpList_app elS _ rfl (.tmp 24) (.tmp 26) rfl w0.heap.size (.slice (some ⟨w1.heap.size, 0, none⟩) 0 0) 0 [] rfl (own_lit (Blk.new w1 59 #[]) HN1.out.size) (some ⟨g, o, none⟩) n c (flat L) rfl ((New.al (New.refl w1) _).rd HR1.out) H1.out (by unfold maxLen; omega) (by omega) (by simp; have := HN1.out.size; omega) ?_; intro A1 d1 w3 hO3 hF3 hA3; rw [Nat.zero_add]; rw [Nat.zero_add, List.nil_append] at hO3; obtain ⟨b, cap, he, hcp, hcm⟩ := own_form hO3 (by omega); injection he with he _ he'; subst he he'; have HN3 : Hid (New w0 w3) := Lib.hid ((New.al HN1.out _).fr hF3 (by intro k hk; simp [Value.ownBlock] at hk; have := HN1.out.size; omega)); have hbb0 := (own_lt hO3 b rfl).1; have hb0 : ¬ b = w.heap.size := (by have := HSZ.out; omega); have hb1 : ¬ b = w.heap.size + 1 := (by have := HSZ.out; omega); have HO3 := Lib.hid hO3; obtain ⟨m0, m1, m2, m3, f0, f1, f2, f3⟩ := own_row hO3 HL.out hi; have hK3 := HN3.out.blk HK4.out; have e0 := hK3.cell 0; have e1 := hK3.cell 1; have q0 := hK3.frozen 0; have q1 := hK3.frozen 1; have hc1 := HN3.out.cell_ HC1.out; have HK3 := Lib.hid hK3; clear hO3 hF3 hA3 m0 m1 f0 f1 hK3)
  have hK6 := blk_set2 ((HK3.out.far (p := ⟨b, i * 4 + 2, none⟩) (by simp; omega) (.int .i64 x)).far (p := ⟨b, i * 4 + 3, none⟩) (by simp; omega) (.bool true)) (.slice (some ⟨b, 0, none⟩) n d1) (.int .u64 nx)
  have h60 := hK6.cell 0
  have h61 := hK6.cell 1
  simp at h60 h61
  refine bodyPost_ret (v := .tuple #[.agg #[.slice (some ⟨b, 0, none⟩) n d1, .int .u64 nx], .bool true]) (by simp [results, Try.results16, go_sem, h60, h61]) rfl ⟨⟨_, rfl, ?_⟩, ?_⟩
  · refine rwin_set2 (w0 := w0) (by simp [HL.out]) (by omega) (by have := HSZ.out; omega) ?_ _ _
    exact own_store2 HO3.out hi ⟨L[i].num, L[i].thing, x, true⟩ rfl rfl
  · have hs := HSZ.out
    exact (((((HN0.out.tr HN3.out).set (by simp; omega) _).set (by simp; omega) _).set (by simp) _).set (by simp) _)
theorem renew_no (A : Option Addr) (n c : Nat) (nx a x : Int) (L : List Wt) (w : World) (hL : L.length = n) (hR : Rd (fun b => b < w.heap.size) w 4 A n (flat L)) (hn : n ≤ 1000)
    (hq : placeI L a = -1) :
    Calls Try.prog 19 #[.agg #[.slice A n c, .int .u64 nx], .int .u64 a, .int .i64 x] w fun e w' => e = .returned (.tuple #[.agg #[.slice A n c, .int .u64 nx], .bool false]) ∧ New w w' := by
  have HL := Lib.hid hL
  have HR := Lib.hid hR
  clear hL hR
  go_enter Try.func19, Try.ntmps19
  go_wp2_with fail
  obtain ⟨w0, hw0⟩ : ∃ w0 : World, w0 = (w.alloc (.cells #[.slice A n c, .int .u64 nx] 49)).alloc (.cells #[.slice none 0 0, .int .u64 0] 49) := ⟨_, rfl⟩
  have c0 : w0.cell? ⟨w.heap.size, 0, none⟩ = some (.slice A n c) := by rw [hw0]; simp
  have c1 : w0.cell? ⟨w.heap.size, 1, none⟩ = some (.int .u64 nx) := by rw [hw0]; simp
  have HN0 : Hid (New w w0) := Lib.hid (by rw [hw0]; exact (New.al (New.al (New.refl _) _) _))
  have HK4 : Hid (Blk w0 (w.heap.size + 1) 49 #[.slice none 0 0, .int .u64 0]) := Lib.hid (by
    rw [hw0]
    exact Blk.new' _ _ _ (by simp))
  rw [← hw0]
  clear hw0
  refine (place_any A n c nx a L w0 HL.out (rd_lt HR.out HN0.out) hn).mono ?_
  rintro e w1 ⟨rfl, hN1⟩
  have d0 := New.cell_ hN1 c0
  have d1 := New.cell_ hN1 c1
  have hK1 := New.blk hN1 HK4.out
  have e0 := hK1.cell 0
  have e1 := hK1.cell 1
  have f0 := hK1.frozen 0
  have f1 := hK1.frozen 1
  have HR1 := Lib.hid (rd_lt (rd_lt HR.out HN0.out) hN1)
  have HN1 := Lib.hid hN1
  have HK1 := Lib.hid hK1
  clear hN1 hK1 c0 c1 HK4 HR
  have hK6 := blk_set2 HK1.out (.slice A n c) (.int .u64 nx)
  have h60 := hK6.cell 0
  have h61 := hK6.cell 1
  simp at h60 h61
  have HE : Hid (New w ((w1.setCell ⟨w.heap.size + 1, 0, none⟩ (.slice A n c)).setCell ⟨w.heap.size + 1, 1, none⟩ (.int .u64 nx))) := Lib.hid (((HN0.out.tr HN1.out).set (by simp) _).set (by simp) _)
  clear hK6
  rw [hq]
  clear hq
  go_wp2_with fail
  refine bodyPost_ret (v := .tuple #[.agg #[.slice A n c, .int .u64 nx], .bool false]) (by simp [results, Try.results19, go_sem, h60, h61]) rfl ⟨rfl, HE.out⟩

set_option maxHeartbeats 1000000 in
theorem renew_yes (A : Option Addr) (n c : Nat) (nx a x : Int) (L : List Wt) (w : World) (hL : L.length = n) (hR : Rd (fun b => b < w.heap.size) w 4 A n (flat L)) (h1 : ∀ u ∈ flat L, u.oneCell' = true) (hn : n ≤ 1000)
    (i : Nat) (hi : i < L.length) (hq : placeI L a = i) (hnx : IntKind.u64.wrap (nx + 1) = nx + 1) :
    Calls Try.prog 19 #[.agg #[.slice A n c, .int .u64 nx], .int .u64 a, .int .i64 x] w fun e w' => (∃ v, e = .returned (.tuple #[v, .bool true]) ∧ RWin w.heap.size w' v (L.set i ⟨nx, .int .i64 x, 0, false⟩) (nx + 1)) ∧ New w w' := by
  have HL := Lib.hid hL
  have HR := Lib.hid hR
  have H1 := Lib.hid h1
  clear hL hR h1
  go_enter Try.func19, Try.ntmps19
  go_wp2_with fail
  obtain ⟨w0, hw0⟩ : ∃ w0 : World, w0 = (w.alloc (.cells #[.slice A n c, .int .u64 nx] 49)).alloc (.cells #[.slice none 0 0, .int .u64 0] 49) := ⟨_, rfl⟩
  have c0 : w0.cell? ⟨w.heap.size, 0, none⟩ = some (.slice A n c) := by rw [hw0]; simp
  have c1 : w0.cell? ⟨w.heap.size, 1, none⟩ = some (.int .u64 nx) := by rw [hw0]; simp
  have HSZ : Hid (w0.heap.size = w.heap.size + 2) := Lib.hid (by rw [hw0]; simp)
  have HN0 : Hid (New w w0) := Lib.hid (by rw [hw0]; exact (New.al (New.al (New.refl _) _) _))
  have HK4 : Hid (Blk w0 (w.heap.size + 1) 49 #[.slice none 0 0, .int .u64 0]) := Lib.hid (by
    rw [hw0]
    exact Blk.new' _ _ _ (by simp))
  rw [← hw0]
  clear hw0
  refine (place_any A n c nx a L w0 HL.out (rd_lt HR.out HN0.out) hn).mono ?_
  rw [hq]
  clear hq
  rintro e w1 ⟨rfl, hN1⟩
  have d0 := New.cell_ hN1 c0
  have HR1 := Lib.hid (rd_lt (rd_lt HR.out HN0.out) hN1)
  have HN1 := Lib.hid hN1
  have HC1 := Lib.hid c1
  have hin : i < n := by rw [← HL.out]; exact hi
  clear hN1 c0 c1 HR
  obtain ⟨g, o, hl, rfl, hpb, hbb, k0, k1, k2, k3⟩ := rd_elem HR1.out (i := i) hin
  have HI : Hid (i < L.length) := Lib.hid hi
  have d0a := (New.al (New.refl w1) (.cells #[] 59)).cell_ d0
  clear k0 k1 k2 k3
  go_wp2_with (at_builtin; refine wpList_app elS _ rfl (.tmp 16) (.tmp 18) rfl w0.heap.size (.slice (some ⟨w1.heap.size, 0, none⟩) 0 0) 0 [] rfl (own_lit (Blk.new w1 59 #[]) HN1.out.size) (some ⟨g, o, none⟩) n c (flat L) rfl ((New.al (New.refl w1) _).rd HR1.out) H1.out (by unfold maxLen; omega) (by omega) (by simp; have := HN1.out.size; omega) ?_; intro A1 d1 w3 hO3 hF3 hA3; rw [Nat.zero_add]; rw [Nat.zero_add, List.nil_append] at hO3; obtain ⟨b, cap, he, hcp, hcm⟩ := own_form hO3 (by omega); injection he with he _ he'; subst he he'; have HN3 : Hid (New w0 w3) := Lib.hid ((New.al HN1.out _).fr hF3 (by intro k hk; simp [Value.ownBlock] at hk; have := HN1.out.size; omega)); have hbb0 := (own_lt hO3 b rfl).1; have hb0 : ¬ b = w.heap.size := (by have := HSZ.out; omega); have hb1 : ¬ b = w.heap.size + 1 := (by have := HSZ.out; omega); have HO3 := Lib.hid hO3; obtain ⟨m0, m1, m2, m3, f0, f1, f2, f3⟩ := own_row hO3 HL.out hi; have hK3 := HN3.out.blk HK4.out; have e0 := hK3.cell 0; have e1 := hK3.cell 1; have q0 := hK3.frozen 0; have q1 := hK3.frozen 1; have hc1 := HN3.out.cell_ HC1.out; have HK3 := Lib.hid hK3; clear hO3 hF3 hA3 hK3)
  have hK6 := blk_set2 ((((HK3.out.far (p := ⟨b, i * 4, none⟩) (by simp; omega) (.int .u64 nx)).far (p := ⟨b, i * 4 + 1, none⟩) (by simp; omega) (.int .i64 x)).far (p := ⟨b, i * 4 + 2, none⟩) (by simp; omega) (.int .i64 0)).far (p := ⟨b, i * 4 + 3, none⟩) (by simp; omega) (.bool false)) (.slice (some ⟨b, 0, none⟩) n d1) (.int .u64 (nx + 1))
  have h60 := hK6.cell 0
  have h61 := hK6.cell 1
  simp at h60 h61
  refine bodyPost_ret (v := .tuple #[.agg #[.slice (some ⟨b, 0, none⟩) n d1, .int .u64 (nx + 1)], .bool true]) (by simp [results, Try.results19, go_sem, h60, h61]) rfl ⟨⟨_, rfl, ?_⟩, ?_⟩
  · refine rwin_set2 (w0 := w0) (by simp [HL.out]) (by omega) (by have := HSZ.out; omega) ?_ _ _
    exact own_store4 HO3.out hi ⟨nx, .int .i64 x, 0, false⟩
  · have hs := HSZ.out
    exact (((((((HN0.out.tr HN3.out).set (by simp; omega) _).set (by simp; omega) _).set (by simp; omega) _).set (by simp; omega) _).set (by simp) _).set (by simp) _)
end Go.Proofs.Ythhgepnneaehhaa.Rf
