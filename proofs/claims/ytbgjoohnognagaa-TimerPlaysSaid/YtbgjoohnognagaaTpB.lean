/- The document's timer: Start. No condition but that its list can be read. -/
import Derived.Test.YtbgjoohnognagaaTpA
namespace Go.Proofs.Ytbgjoohnognagaa
open Go.RowKit

theorem box_blk (w : World) (t : TypeId) (cs : Array Value) : ∃ w0 bx, w0 = w.alloc (.cells cs t) ∧ bx = w.heap.size ∧ Blk w0 bx t cs ∧ New w w0 ∧ w.heap.size ≤ bx ∧ bx < w0.heap.size := ⟨_, _, rfl, rfl, Blk.new _ _ _, (New.refl w).al _, Nat.le_refl _, by simp⟩
theorem two_blk (w : World) (t : TypeId) (cs zs : Array Value) : ∃ w0 bx bz, w0 = (w.alloc (.cells cs t)).alloc (.cells zs t) ∧ bx = w.heap.size ∧ bz = w.heap.size + 1 ∧ Blk w0 bx t cs ∧ Blk w0 bz t zs ∧ New w w0 ∧ w.heap.size ≤ bx ∧ w.heap.size ≤ bz ∧ bx ≠ bz :=
  ⟨_, _, _, rfl, rfl, rfl, (Blk.new w _ _).alloc _, Blk.new' _ _ _ (by simp), ((New.refl w).al _).al _, Nat.le_refl _, by omega, by omega⟩

set_option maxHeartbeats 4000000 in
theorem rstart_no (t : RT) (L : List Rn) (a now : Int) (w : World) (h : RIn w t L) (i : Nat) (hp : place L a = some i) :
    Calls Try.prog 19 #[.agg #[.int .i64 t.lt, .int .i64 t.mt, .int .i64 t.lm, .float .f64 t.mean, .slice t.A t.n t.c], .int .u64 a, .int .i64 now] w fun e w' =>
      e = .returned (.tuple #[.agg #[.int .i64 t.lt, .int .i64 t.mt, .int .i64 t.lm, .float .f64 t.mean, .slice t.A t.n t.c], .bool false]) ∧ New w w' := by
  have H := Lib.hid h
  have HQ := Lib.hid (placeI_some hp)
  have hpl := fun (w' : World) (hN : New w w') => rplace_any t L a w' (H.out.new hN)
  obtain ⟨lt, mt, lm, mean, A, n, c⟩ := t
  dsimp only at hpl ⊢
  have HPL := Lib.hid hpl
  clear h hp hpl
  obtain ⟨w0, bx, bz, hw0, hbx, hbz, hB, hZ, hN0, hx1, hz1, hxz⟩ := two_blk w 48 #[.int .i64 lt, .int .i64 mt, .int .i64 lm, .float .f64 mean, .slice A n c] #[.int .i64 0, .int .i64 0, .int .i64 0, .float .f64 0, .slice none 0 0]
  have HBX := Lib.hid hB
  have HBZ := Lib.hid hZ
  have HN0 : Hid (New w w0) := Lib.hid hN0
  have HW := Lib.hid hw0
  have HBE := Lib.hid hbx
  have HZE := Lib.hid hbz
  clear hB hZ hN0 hw0 hbx hbz
  go_enter Try.func19, Try.ntmps19
  go_upto_region 1 with fail
  rw [← HW.out, ← HZE.out, ← HBE.out]
  go_wp2_with ((with_reducible refine atOpS ⟨some 9, .load _ _, _, _, _, _⟩ ?_); refine row_load rowT rfl (.tmp 3) rfl rfl HBX.out rfl ?_)
  refine (HPL.out w0 HN0.out).mono ?_
  rw [HQ.out]
  rintro e w1 ⟨rfl, hN1⟩
  have HN1 : Hid (New w0 w1) := Lib.hid hN1
  have HBX := Lib.hid (HN1.out.blk HBX.out)
  have HBZ := Lib.hid (HN1.out.blk HBZ.out)
  clear hN1
  go_wp2_with (first | ((with_reducible refine atOpS ⟨some 13, .load _ _, _, _, _, _⟩ ?_); refine row_load rowT rfl (.tmp 3) rfl rfl HBX.out rfl ?_) | ((with_reducible refine atOpS ⟨none, .store 48 _ _, _, _, _, _⟩ ?_); refine row_store rowT rfl (.tmp 6) (.tmp 13) rfl rfl rfl HBZ.out rfl rfl (RT.one ⟨_, _, _, _, _, _, _⟩) ?_; intro wz hBz hFz; have z0 := hBz.cell 0; have z1 := hBz.cell 1; have z2 := hBz.cell 2; have z3 := hBz.cell 3; have z4 := hBz.cell 4; have HFz := Lib.hid hFz; clear hBz hFz))
  refine bodyPost_ret (v := .tuple #[.agg #[.int .i64 lt, .int .i64 mt, .int .i64 lm, .float .f64 mean, .slice A n c], .bool false]) (by simp [results, Try.results19, go_sem, z0, z1, z2, z3, z4]) rfl ⟨rfl, ?_⟩
  exact (HN0.out.tr HN1.out).fr HFz.out (fun k hk => by omega)

set_option maxHeartbeats 8000000 in
theorem rstart_yes (t : RT) (L : List Rn) (a now r : Int) (w : World) (h : RIn w t L) (hp : place L a = none) (hr : TickR t.mean t.lt t.mt r) (h1 : 1 ≤ t.lt) (h3 : t.mt ≤ 65536) (hlen : L.length < 1000) :
    Calls Try.prog 19 #[.agg #[.int .i64 t.lt, .int .i64 t.mt, .int .i64 t.lm, .float .f64 t.mean, .slice t.A t.n t.c], .int .u64 a, .int .i64 now] w fun e w' =>
      (∃ A' c', e = .returned (.tuple #[.agg #[.int .i64 t.lt, .int .i64 t.mt, .int .i64 t.lm, .float .f64 t.mean, .slice A' (t.n + 1) c'], .bool true]) ∧ RIn w' ⟨t.lt, t.mt, t.lm, t.mean, A', t.n + 1, c'⟩ (L ++ [⟨a, tickZ now, tickZ now + r, r, 1⟩])) ∧ New w w' := by
  have H := Lib.hid h
  have HQ := Lib.hid (placeI_none hp)
  have hr1 := hr.2.1
  have hr2 := hr.2.2
  have hpl := fun (w' : World) (hN : New w w') => rplace_any t L a w' (H.out.new hN)
  have hin := fun (w' : World) => rinterval_any t r w' hr
  have ht := tickZ_in now
  have htc := rtick_any now
  have hle : t.n < 1000 := by have := h.len; omega
  obtain ⟨lt, mt, lm, mean, A, n, c⟩ := t
  dsimp only at hpl hin hr1 hr2 h1 h3 hle ⊢
  generalize tickZ now = tk at ht htc ⊢
  have HPL := Lib.hid hpl
  have HIN := Lib.hid hin
  have HTC := Lib.hid htc
  clear h hp hpl hin htc hr
  obtain ⟨w0, bx, bz, hw0, hbx, hbz, hB, hZ, hN0, hx1, hz1, hxz⟩ := two_blk w 48 #[.int .i64 lt, .int .i64 mt, .int .i64 lm, .float .f64 mean, .slice A n c] #[.int .i64 0, .int .i64 0, .int .i64 0, .float .f64 0, .slice none 0 0]
  have HBX := Lib.hid hB
  have HBZ := Lib.hid hZ
  have HN0 : Hid (New w w0) := Lib.hid hN0
  have HW := Lib.hid hw0
  have HBE := Lib.hid hbx
  have HZE := Lib.hid hbz
  clear hB hZ hN0 hw0 hbx hbz
  go_enter Try.func19, Try.ntmps19
  go_upto_region 1 with fail
  rw [← HW.out, ← HZE.out, ← HBE.out]
  go_wp2_with ((with_reducible refine atOpS ⟨some 9, .load _ _, _, _, _, _⟩ ?_); refine row_load rowT rfl (.tmp 3) rfl rfl HBX.out rfl ?_)
  refine (HPL.out w0 HN0.out).mono ?_
  rw [HQ.out]
  rintro e w1 ⟨rfl, hN1⟩
  have HN1 : Hid (New w0 w1) := Lib.hid hN1
  have HBX := Lib.hid (HN1.out.blk HBX.out)
  clear hN1
  go_wp2_with (first | ((with_reducible refine atOpS ⟨some 16, .load _ _, _, _, _, _⟩ ?_); refine row_load rowT rfl (.tmp 3) rfl rfl HBX.out rfl ?_) | (go_at_call 35; refine (HTC.out _).mono ?_; rintro e w2 ⟨rfl, rfl⟩))
  refine (HIN.out w1).mono ?_
  rintro e w2 ⟨rfl, hN2⟩
  have HN2 : Hid (New w0 w2) := Lib.hid (HN1.out.tr hN2)
  have hB2 := hN2.blk HBX.out
  have HZ2 := Lib.hid (HN2.out.blk HBZ.out)
  have HR2 := Lib.hid (H.out.new (HN0.out.tr HN2.out)).rd
  have HBX2 := Lib.hid hB2
  have k4 : ∀ o : Obj, (w2.alloc o).cell? ⟨bx, 4, none⟩ = some (.slice A n c) := fun o => (New.al (New.refl w2) o).cell_ (hB2.cell 4)
  have HNbx : Hid (bx < w2.heap.size) := Lib.hid hB2.lt
  have HNbz : Hid (bz < w2.heap.size) := Lib.hid HZ2.out.lt
  have HLc := Lib.hid (flat_cell L)
  have HNw2 : Hid (New w w2) := Lib.hid (HN0.out.tr HN2.out)
  clear hN2 hB2 HBX HBZ
  go_wp2_with (first
    | (at_builtin; refine wpList_app (o := ⟨some 21, _, _, _, _, _⟩) elQ _ rfl (.tmp 18) (.tmp 20) rfl w2.heap.size (.slice (some ⟨w2.heap.size, 0, none⟩) 0 0) 0 [] rfl (own_lit (Blk.new w2 76 #[]) (Nat.le_refl _)) A n c (flat L) rfl (New.rd (New.al (New.refl w2) _) HR2.out) HLc.out (by unfold maxLen; omega) (by omega) (by simp) ?_; intro A3 d3 w3 hO3 hF3 hA3; rw [Nat.zero_add]; rw [Nat.zero_add, List.nil_append] at hO3; have HO3 := Lib.hid hO3; have HN3 : Hid (New w2 w3) := Lib.hid ((New.al (New.refl w2) _).fr hF3 (by intro k hk; simp [Value.ownBlock] at hk; omega)); clear hO3 hF3 hA3)
    | ((with_reducible refine atOpS ⟨some 29, .buildSlice _ _ _, _, _, _, _⟩ ?_); refine wpList_bs1 elQ (by decide) rfl (.tmp 28) rfl #[.int .u64 a, .int .i64 tk, .int .i64 (tk + r), .int .i64 r, .int .i64 1] rfl rfl ?_)
    | (at_builtin; refine wpList_app (o := ⟨some 30, _, _, _, _, _⟩) elQ _ rfl (.tmp 21) (.tmp 29) rfl w2.heap.size (.slice A3 n d3) n (flat L) rfl (New.own (New.al (New.refl w3) _) HO3.out) (some ⟨w3.heap.size, 0, none⟩) 1 1 [.int .u64 a, .int .i64 tk, .int .i64 (tk + r), .int .i64 r, .int .i64 1] rfl (Rd.ofBlk (p := fun _ => True) (t := 76) (cs := #[.int .u64 a, .int .i64 tk, .int .i64 (tk + r), .int .i64 r, .int .i64 1]) (Blk.new' _ _ _ rfl) 5 1 rfl trivial) (by simp [Value.oneCell']) (by unfold maxLen; omega) (by omega) (by simp; have := HN3.out.size; omega) ?_; intro A4 d4 w4 hO4 hF4 hA4; have HO4 := Lib.hid hO4; have HN4 : Hid (New w2 w4) := Lib.hid ((HN3.out.al _).fr hF4 (fun k hk => (own_lt HO3.out k hk).1)); have hB4 := HN4.out.blk HBX2.out; have m4 := hB4.cell 4; have q4 := hB4.frozen 4; have hB5 : ∀ u, Blk (w4.setCell ⟨bx, 4, none⟩ u) bx 48 #[.int .i64 lt, .int .i64 mt, .int .i64 lm, .float .f64 mean, u] := (fun u => by have := hB4.set 4 u; simpa using this); have HB5 := Lib.hid hB5; have HZ5 : Hid (∀ u, Blk (w4.setCell ⟨bx, 4, none⟩ u) bz 48 #[.int .i64 0, .int .i64 0, .int .i64 0, .float .f64 0, .slice none 0 0]) := Lib.hid (fun u => (HN4.out.blk HZ2.out).far (p := ⟨bx, 4, none⟩) (fun e => hxz e.symm) u); clear hO4 hF4 hA4 hB4 hB5)
    | ((with_reducible refine atOpS ⟨some 32, .load _ _, _, _, _, _⟩ ?_); refine row_load rowT rfl (.tmp 3) rfl rfl (HB5.out _) rfl ?_)
    | ((with_reducible refine atOpS ⟨none, .store 48 _ _, _, _, _, _⟩ ?_); refine row_store rowT rfl (.tmp 6) (.tmp 32) rfl rfl rfl (HZ5.out _) rfl rfl (RT.one ⟨_, _, _, _, _, _, _⟩) ?_; intro wz hBz hFz; have z0 := hBz.cell 0; have z1 := hBz.cell 1; have z2 := hBz.cell 2; have z3 := hBz.cell 3; have z4 := hBz.cell 4; have HFz := Lib.hid hFz; clear hBz hFz))
  refine bodyPost_ret (v := .tuple #[.agg #[.int .i64 lt, .int .i64 mt, .int .i64 lm, .float .f64 mean, .slice A4 (n + 1) d4], .bool true]) (by simp [results, Try.results19, go_sem, z0, z1, z2, z3, z4]) rfl ⟨⟨A4, d4, rfl, ?_⟩, ?_⟩
  · have hO5 := own_fr (own_fr HO4.out ((Fr.refl (fun k => k = bx) w4).setCell (p := ⟨bx, 4, none⟩) (fun _ => rfl) (.slice A4 (n + 1) d4)) (fun k hk e => by have := (own_lt HO4.out k hk).1; have := HNbx.out; omega)) HFz.out (fun k hk e => by have := (own_lt HO4.out k hk).1; have := HNbz.out; omega)
    have hs := own_shape HO4.out
    obtain ⟨A', c', hv, hnc, -, -, -⟩ := hs
    injection hv with _ _ hv
    refine ⟨?_, by simp; exact H.out.len, by show n + 1 ≤ 1000; omega, by show n + 1 ≤ d4; omega⟩
    rw [flat_app, flat_one]
    exact RdT.own hO5 rfl
  · exact ((HNw2.out.tr HN4.out).set (p := ⟨bx, 4, none⟩) hx1 _).fr HFz.out (fun k hk => by omega)
end Go.Proofs.Ytbgjoohnognagaa
