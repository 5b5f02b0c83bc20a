/- The reference's Apply. No condition but that all can be read. -/
import Derived.Test.YtfhinmjpokollaaKvM
namespace Go.Proofs.Ytfhinmjpokollaa
set_option linter.unusedVariables false
set_option linter.unusedSimpArgs false
set_option linter.constructorNameAsVariable false
open Go.RowKit Go.Maps Go.Sort

/-- One round of the reference's Apply; `ge` holds the keys against each other. -/
def rstep (ge : List Int → List Int → Bool) (c : Ch) (s : List Ch × Bool) (x : Ch) : List Ch × Bool :=
  let s1 := if !s.2 && ge x.k.xs c.k.xs then (s.1 ++ [c], true) else s
  (if x.k.xs = c.k.xs then s1.1 else s1.1 ++ [x], s1.2)
/-- The order of strings, as the program asks for it. -/
def geS (xs ys : List Int) : Bool := !Op.bytesLess (strOfNums xs).toList (strOfNums ys).toList
def rfold (ge : List Int → List Int → Bool) (c : Ch) (L : List Ch) : List Ch × Bool := L.foldl (rstep ge c) ([], c.d)
def rapp (ge : List Int → List Int → Bool) (c : Ch) (L : List Ch) : List Ch := if (rfold ge c L).2 then (rfold ge c L).1 else (rfold ge c L).1 ++ [c]
theorem rfold_take {ge : List Int → List Int → Bool} {c : Ch} {L : List Ch} {k : Nat} (h : k < L.length) : rfold ge c (L.take (k + 1)) = rstep ge c (rfold ge c (L.take k)) L[k] := by
  unfold rfold
  rw [List.take_succ_eq_append_getElem h, List.foldl_append]
  rfl
theorem binOp_string_geq (t : TypeId) (a b : ByteArray) : binOp .geq t (.string a) (.string b) = pure (.bool !(Op.bytesLess a.toList b.toList)) := by simp [binOp, Op.stringOp]
theorem elT : ElemOf Try.prog 27 49 3 56 := ElemOf.mk' (z := .agg ch0.cells.toArray) Try.underlying27 (by kernel_rfl) rfl (by decide)

set_option maxRecDepth 100000 in
set_option maxHeartbeats 4000000 in
theorem rapply_any {P q : Nat → Prop} (A : Option Addr) (n c : Nat) (L : List Ch) (y : Ch) (w : World) (h : Rd P w 3 A n (L.flatMap Ch.cells)) (hL : L.length = n) (hn : n ≤ 100000000) (hb : ∀ c ∈ L, c.In P w) (hy : y.In q w) :
    Calls Try.prog 23 #[.slice A n c, .agg y.cells.toArray] w fun e w' => (∃ A' n' c', e = .returned (.slice A' n' c') ∧ n' ≤ 2 * n + 1 ∧ w'.ownsRow (w.heap.size + 1) 49 3 (.slice A' n' c') n' ((rapp geS y L).flatMap Ch.cells)) ∧ New w w' := by
  have HR := Lib.hid h
  have HL := Lib.hid hL
  have HB := Lib.hid hb
  have HY := Lib.hid hy
  obtain ⟨⟨kA, kn, kc, ks⟩, ⟨vA, vn, vc, vs⟩, dd⟩ := y
  clear h hL hb hy
  unfold Ch.cells
  dsimp only
  go_enter Try.func23, Try.ntmps23
  go_wp2_with fail
  obtain ⟨w0, hw0⟩ : ∃ w0 : World, w0 = (w.alloc (.cells #[.slice kA kn kc, .slice vA vn vc, .bool dd] 49)).alloc (.cells #[] 49) := ⟨_, rfl⟩
  obtain ⟨b3, hb3⟩ : ∃ b3, b3 = w.heap.size := ⟨_, rfl⟩
  have HN0 : Hid (New w w0) := Lib.hid (by rw [hw0]; exact New.al (New.al (New.refl _) _) _)
  have HB3 : Hid (Blk w0 b3 49 #[.slice kA kn kc, .slice vA vn vc, .bool dd]) := Lib.hid (by rw [hw0, hb3]; exact (Blk.new _ _ _).alloc _)
  have HO0 : Hid (w0.ownsRow (b3 + 1) 49 3 (.slice (some ⟨b3 + 1, 0, none⟩) 0 0) 0 []) := Lib.hid (by rw [hw0, hb3]; exact own_lit (Blk.new' _ 49 #[] (by simp)) (Nat.le_refl _))
  have HZ : Hid (b3 = w.heap.size ∧ w0.heap.size = b3 + 2) := Lib.hid ⟨hb3, by rw [hw0, hb3]; simp⟩
  rw [← hw0, ← hb3]
  clear hw0 hb3
  go_loopw [5, 6, 7] (fun s d i wr => ∃ (j m : Nat) (A' : Option Addr) (c' : Nat), j ≤ n ∧ i = .int .i64 j ∧ s = .slice A' m c' ∧ d = .bool (rfold geS ⟨⟨kA, kn, kc, ks⟩, ⟨vA, vn, vc, vs⟩, dd⟩ (L.take j)).2 ∧ m ≤ 2 * j ∧ Hid (wr.ownsRow (b3 + 1) 49 3 (.slice A' m c') m ((rfold geS ⟨⟨kA, kn, kc, ks⟩, ⟨vA, vn, vc, vs⟩, dd⟩ (L.take j)).1.flatMap Ch.cells)) ∧ Hid (New w wr) ∧ Hid (Blk wr b3 49 #[.slice kA kn kc, .slice vA vn vc, .bool dd])) (fun s d i _ => n - (intOf i).toNat)
  case atStart => exact ⟨0, 0, _, _, Nat.zero_le _, rfl, rfl, rfl, by omega, HO0, HN0, HB3⟩
  case round =>
    obtain ⟨j, m, A', c', hj, rfl, rfl, rfl, hm, HO, HN, HBB⟩ := hrel
    clear HO0 HN0 HB3
    generalize hfj : rfold geS ⟨⟨kA, kn, kc, ks⟩, ⟨vA, vn, vc, vs⟩, dd⟩ (L.take j) = f at *
    obtain ⟨R, db⟩ := f
    dsimp only at HO ⊢
    have e0 : wr.cell? ⟨b3, 0, none⟩ = some (.slice kA kn kc) := HBB.out.cell 0
    have e1 : wr.cell? ⟨b3, 1, none⟩ = some (.slice vA vn vc) := HBB.out.cell 1
    have e2 : wr.cell? ⟨b3, 2, none⟩ = some (.bool dd) := HBB.out.cell 2
    by_cases hlt : j < n
    · as_aux_lemma =>
      obtain ⟨g, o, hl, rfl, -, -, hrg⟩ := rd_row (f := Ch.cells) (L := L) (fun _ => rfl) (by omega) HR.out hlt
      have v0 : w.cell? ⟨g, o + j * 3, none⟩ = some (.slice L[j].k.A L[j].k.n L[j].k.c) := hrg 0 _ rfl
      have v1 : w.cell? ⟨g, o + j * 3 + 1, none⟩ = some (.slice L[j].v.A L[j].v.n L[j].v.c) := hrg 1 _ rfl
      have v2 : w.cell? ⟨g, o + j * 3 + 2, none⟩ = some (.bool L[j].d) := hrg 2 _ rfl
      have hin := HB.out L[j] (List.getElem_mem _)
      have hst := rfold_take (ge := geS) (c := ⟨⟨kA, kn, kc, ks⟩, ⟨vA, vn, vc, vs⟩, dd⟩) hl
      rw [hfj] at hst
      generalize L[j] = x at v0 v1 v2 hst hin
      obtain ⟨⟨xA, xn, xc, xs⟩, ⟨zA, zn, zc, zs⟩, xd⟩ := x
      dsimp only at v0 v1 v2 hin
      have c0 := New.cell_ HN.out v0
      have c1 := New.cell_ HN.out v1
      have c2 := New.cell_ HN.out v2
      have HV0 := Lib.hid v0
      have HV1 := Lib.hid v1
      have HV2 := Lib.hid v2
      have HIN := Lib.hid hin.k.rd
      clear v0 v1 v2
      unfold rstep at hst
      dsimp only at hst
      have hk1 := fun q => run_conv (c := xc) (w := wr.drewN q) (HN.out.rd hin.k.rd)
      have hk2 := fun q => run_conv (c := kc) (w := wr.drewN q) (HN.out.rd HY.out.k.rd)
      have h3 := str_inj hin.k.byt HY.out.k.byt
      have hg1 := binOp_string_geq 9 (strOfNums xs) (strOfNums ks)
      have hgd : Op.bytesLess (strOfNums xs).toList (strOfNums ks).toList = !geS xs ks := by simp [geS]
      dsimp only at hk1 hk2 h3
      rw [hgd, Bool.not_not] at hg1
      obtain ⟨s1, hs1⟩ : ∃ s1, s1 = strOfNums xs := ⟨_, rfl⟩
      obtain ⟨s2, hs2⟩ : ∃ s2, s2 = strOfNums ks := ⟨_, rfl⟩
      rw [← hs1, ← hs2] at h3 hg1
      simp only [← hs1] at hk1
      simp only [← hs2] at hk2
      have HS1 := Lib.hid hs1
      have HS2 := Lib.hid hs2
      clear hs1 hs2
      obtain ⟨r, hr⟩ : ∃ r, r = geS xs ks := ⟨_, rfl⟩
      obtain ⟨t, ht⟩ : ∃ t, t = decide (xs = ks) := ⟨_, rfl⟩
      rw [← hr] at hg1 hst
      rw [← ht] at h3
      have HST := Lib.hid hst
      have HT := Lib.hid ht
      have hj0 : (0 : Int) ≤ (j : Int) := by omega
      have hjn : (j : Int) < (n : Int) := by omega
      clear hrg hl hst hin hr hgd ht hfj
      go_wp2_with fail
      cases db
      · go_quiet (fail)
        cases r
        · go_wp2_with fail
          go_quiet (fail)
          cases t
          · go_wp2_with (first
              | ((with_reducible refine atOpS ⟨some 50, .buildSlice _ _ _, _, _, _, _⟩ ?_); refine wpList_bs1 elT (by decide) rfl (.tmp 49) rfl #[.slice xA xn xc, .slice zA zn zc, .bool xd] rfl rfl ?_)
              | (at_builtin; refine atOpS ⟨some 51, _, _, _, _, _⟩ ?_; refine stopHere ?_))
            refine ⟨?_⟩
            refine wpList_app (o := ⟨some 51, _, _, _, _, _⟩) elT _ rfl (.tmp 45) (.tmp 50) rfl (b3 + 1) (.slice A' m c') m (R.flatMap Ch.cells) rfl (New.own (New.al (New.dn (New.refl wr) _) _) HO.out) _ 1 1 [.slice xA xn xc, .slice zA zn zc, .bool xd] rfl (Rd.ofBlk (p := fun _ => True) (Blk.new _ 49 #[.slice xA xn xc, .slice zA zn zc, .bool xd]) 3 1 rfl trivial) (cells_one ⟨⟨xA, xn, xc, xs⟩, ⟨zA, zn, zc, zs⟩, xd⟩) (by unfold maxLen; omega) (by omega) (by have := HBB.out.lt; simp; omega) ?_
            intro A2 d2 w3 hO3 hF3 hA3
            have HO3 := Lib.hid hO3
            have HN3 : Hid (New w w3) := Lib.hid ((New.al (New.dn HN.out _) _).fr hF3 (fun k hk => by have := (own_lt HO.out k hk).1; have := HZ.out.1; omega))
            have HB3 : Hid (Blk w3 b3 49 #[.slice kA kn kc, .slice vA vn vc, .bool dd]) := Lib.hid (((New.al (New.dn (New.refl wr) _) _).blk HBB.out).fr hF3 (fun hk => by have := (own_lt HO.out b3 hk).1; omega))
            clear hO3 hF3 hA3
            go_wp2_with fail
            go_roundw
            case rel =>
              have hf : rfold geS ⟨⟨kA, kn, kc, ks⟩, ⟨vA, vn, vc, vs⟩, dd⟩ (L.take (j + 1)) = (R ++ [⟨⟨xA, xn, xc, xs⟩, ⟨zA, zn, zc, zs⟩, xd⟩], false) := by
                rw [HST.out, if_neg (of_decide_eq_false HT.out.symm)]
                rfl
              refine ⟨j + 1, m + 1, A2, d2, by omega, by go_num, rfl, by rw [hf], by omega, ?_, HN3, HB3⟩
              rw [hf]
              refine Lib.hid ?_
              have := HO3.out
              rw [List.flatMap_append]
              simpa [Ch.cells] using this
            case measure => simp [intOf]; omega
          · go_wp2_with fail
            go_roundw
            case rel =>
              have hf : rfold geS ⟨⟨kA, kn, kc, ks⟩, ⟨vA, vn, vc, vs⟩, dd⟩ (L.take (j + 1)) = (R, false) := by
                rw [HST.out, if_pos (of_decide_eq_true HT.out.symm)]
                rfl
              refine ⟨j + 1, m, A', c', by omega, by go_num, rfl, by rw [hf], by omega, ?_, ?_, ?_⟩
              · rw [hf]
                exact Lib.hid (New.own (New.dn (New.refl wr) _) HO.out)
              · exact Lib.hid (New.dn HN.out _)
              · exact Lib.hid ((New.dn (New.refl wr) _).blk HBB.out)
            case measure => simp [intOf]; omega
        · go_wp2_with (first
            | ((with_reducible refine atOpS ⟨some 33, .buildSlice _ _ _, _, _, _, _⟩ ?_); refine wpList_bs1 elT (by decide) rfl (.tmp 32) rfl #[.slice kA kn kc, .slice vA vn vc, .bool dd] rfl rfl ?_)
            | (at_builtin; refine atOpS ⟨some 34, _, _, _, _, _⟩ ?_; refine stopHere ?_))
          refine ⟨?_⟩
          refine wpList_app (o := ⟨some 34, _, _, _, _, _⟩) elT _ rfl (.tmp 31) (.tmp 33) rfl (b3 + 1) (.slice A' m c') m (R.flatMap Ch.cells) rfl (New.own (New.al (New.dn (New.refl wr) _) _) HO.out) _ 1 1 [.slice kA kn kc, .slice vA vn vc, .bool dd] rfl (Rd.ofBlk (p := fun _ => True) (Blk.new _ 49 #[.slice kA kn kc, .slice vA vn vc, .bool dd]) 3 1 rfl trivial) (cells_one ⟨⟨kA, kn, kc, ks⟩, ⟨vA, vn, vc, vs⟩, dd⟩) (by unfold maxLen; omega) (by omega) (by have := HBB.out.lt; simp; omega) ?_
          intro A2 d2 w3 hO3 hF3 hA3
          have HO3 : Hid (w3.ownsRow (b3 + 1) 49 3 (.slice A2 (m + 1) d2) (m + 1) ((R ++ [(⟨⟨kA, kn, kc, ks⟩, ⟨vA, vn, vc, vs⟩, dd⟩ : Ch)]).flatMap Ch.cells)) := Lib.hid (by rw [List.flatMap_append]; simpa [Ch.cells] using hO3)
          have HN3 : Hid (New w w3) := Lib.hid ((New.al (New.dn HN.out _) _).fr hF3 (fun k hk => by have := (own_lt HO.out k hk).1; have := HZ.out.1; omega))
          have HB3 : Hid (Blk w3 b3 49 #[.slice kA kn kc, .slice vA vn vc, .bool dd]) := Lib.hid (((New.al (New.dn (New.refl wr) _) _).blk HBB.out).fr hF3 (fun hk => by have := (own_lt HO.out b3 hk).1; omega))
          clear hO3 hF3 hA3 e0 e1 e2 c0 c1 c2 hk1 hk2
          have e0 : w3.cell? ⟨b3, 0, none⟩ = some (.slice kA kn kc) := HB3.out.cell 0
          have c0 := New.cell_ HN3.out HV0.out
          have c1 := New.cell_ HN3.out HV1.out
          have c2 := New.cell_ HN3.out HV2.out
          have hk1 := fun q => run_conv (c := xc) (w := w3.drewN q) (HN3.out.rd HIN.out)
          have hk2 := fun q => run_conv (c := kc) (w := w3.drewN q) (HN3.out.rd HY.out.k.rd)
          dsimp only at hk1 hk2
          simp only [← HS1.out] at hk1
          simp only [← HS2.out] at hk2
          go_wp2_with fail
          go_quiet (fail)
          cases t
          · go_wp2_with (first
              | ((with_reducible refine atOpS ⟨some 50, .buildSlice _ _ _, _, _, _, _⟩ ?_); refine wpList_bs1 elT (by decide) rfl (.tmp 49) rfl #[.slice xA xn xc, .slice zA zn zc, .bool xd] rfl rfl ?_)
              | (at_builtin; refine atOpS ⟨some 51, _, _, _, _, _⟩ ?_; refine stopHere ?_))
            refine ⟨?_⟩
            refine wpList_app (o := ⟨some 51, _, _, _, _, _⟩) elT _ rfl (.tmp 45) (.tmp 50) rfl (b3 + 1) (.slice A2 (m + 1) d2) (m + 1) ((R ++ [(⟨⟨kA, kn, kc, ks⟩, ⟨vA, vn, vc, vs⟩, dd⟩ : Ch)]).flatMap Ch.cells) rfl (New.own (New.al (New.dn (New.refl w3) _) _) HO3.out) _ 1 1 [.slice xA xn xc, .slice zA zn zc, .bool xd] rfl (Rd.ofBlk (p := fun _ => True) (Blk.new _ 49 #[.slice xA xn xc, .slice zA zn zc, .bool xd]) 3 1 rfl trivial) (cells_one ⟨⟨xA, xn, xc, xs⟩, ⟨zA, zn, zc, zs⟩, xd⟩) (by unfold maxLen; omega) (by omega) (by have := HB3.out.lt; simp; omega) ?_
            intro A4 d4 w5 hO5 hF5 hA5
            have HO5 := Lib.hid hO5
            have HN5 : Hid (New w w5) := Lib.hid ((New.al (New.dn HN3.out _) _).fr hF5 (fun k hk => by have := (own_lt HO3.out k hk).1; have := HZ.out.1; omega))
            have HB5 : Hid (Blk w5 b3 49 #[.slice kA kn kc, .slice vA vn vc, .bool dd]) := Lib.hid (((New.al (New.dn (New.refl w3) _) _).blk HB3.out).fr hF5 (fun hk => by have := (own_lt HO3.out b3 hk).1; omega))
            clear hO5 hF5 hA5
            go_wp2_with fail
            go_roundw
            case rel =>
              have hf : rfold geS ⟨⟨kA, kn, kc, ks⟩, ⟨vA, vn, vc, vs⟩, dd⟩ (L.take (j + 1)) = (R ++ [(⟨⟨kA, kn, kc, ks⟩, ⟨vA, vn, vc, vs⟩, dd⟩ : Ch)] ++ [⟨⟨xA, xn, xc, xs⟩, ⟨zA, zn, zc, zs⟩, xd⟩], true) := by
                rw [HST.out, if_neg (of_decide_eq_false HT.out.symm)]
                rfl
              refine ⟨j + 1, m + 1 + 1, A4, d4, by omega, by go_num, rfl, by rw [hf], by omega, ?_, HN5, HB5⟩
              rw [hf]
              refine Lib.hid ?_
              have := HO5.out
              rw [List.flatMap_append]
              simpa [Ch.cells] using this
            case measure => simp [intOf]; omega
          · go_wp2_with fail
            go_roundw
            case rel =>
              have hf : rfold geS ⟨⟨kA, kn, kc, ks⟩, ⟨vA, vn, vc, vs⟩, dd⟩ (L.take (j + 1)) = (R ++ [(⟨⟨kA, kn, kc, ks⟩, ⟨vA, vn, vc, vs⟩, dd⟩ : Ch)], true) := by
                rw [HST.out, if_pos (of_decide_eq_true HT.out.symm)]
                rfl
              refine ⟨j + 1, m + 1, A2, d2, by omega, by go_num, rfl, by rw [hf], by omega, ?_, ?_, ?_⟩
              · rw [hf]
                exact Lib.hid (New.own (New.dn (New.refl w3) _) HO3.out)
              · exact Lib.hid (New.dn HN3.out _)
              · exact Lib.hid ((New.dn (New.refl w3) _).blk HB3.out)
            case measure => simp [intOf]; omega
      · go_quiet (fail)
        go_wp2_with fail
        go_quiet (fail)
        cases t
        · go_wp2_with (first
            | ((with_reducible refine atOpS ⟨some 50, .buildSlice _ _ _, _, _, _, _⟩ ?_); refine wpList_bs1 elT (by decide) rfl (.tmp 49) rfl #[.slice xA xn xc, .slice zA zn zc, .bool xd] rfl rfl ?_)
            | (at_builtin; refine atOpS ⟨some 51, _, _, _, _, _⟩ ?_; refine stopHere ?_))
          refine ⟨?_⟩
          refine wpList_app (o := ⟨some 51, _, _, _, _, _⟩) elT _ rfl (.tmp 45) (.tmp 50) rfl (b3 + 1) (.slice A' m c') m (R.flatMap Ch.cells) rfl (New.own (New.al (New.dn (New.refl wr) _) _) HO.out) _ 1 1 [.slice xA xn xc, .slice zA zn zc, .bool xd] rfl (Rd.ofBlk (p := fun _ => True) (Blk.new _ 49 #[.slice xA xn xc, .slice zA zn zc, .bool xd]) 3 1 rfl trivial) (cells_one ⟨⟨xA, xn, xc, xs⟩, ⟨zA, zn, zc, zs⟩, xd⟩) (by unfold maxLen; omega) (by omega) (by have := HBB.out.lt; simp; omega) ?_
          intro A2 d2 w3 hO3 hF3 hA3
          have HO3 := Lib.hid hO3
          have HN3 : Hid (New w w3) := Lib.hid ((New.al (New.dn HN.out _) _).fr hF3 (fun k hk => by have := (own_lt HO.out k hk).1; have := HZ.out.1; omega))
          have HB3 : Hid (Blk w3 b3 49 #[.slice kA kn kc, .slice vA vn vc, .bool dd]) := Lib.hid (((New.al (New.dn (New.refl wr) _) _).blk HBB.out).fr hF3 (fun hk => by have := (own_lt HO.out b3 hk).1; omega))
          clear hO3 hF3 hA3
          go_wp2_with fail
          go_roundw
          case rel =>
            have hf : rfold geS ⟨⟨kA, kn, kc, ks⟩, ⟨vA, vn, vc, vs⟩, dd⟩ (L.take (j + 1)) = (R ++ [⟨⟨xA, xn, xc, xs⟩, ⟨zA, zn, zc, zs⟩, xd⟩], true) := by
              rw [HST.out, if_neg (of_decide_eq_false HT.out.symm)]
              rfl
            refine ⟨j + 1, m + 1, A2, d2, by omega, by go_num, rfl, by rw [hf], by omega, ?_, HN3, HB3⟩
            rw [hf]
            refine Lib.hid ?_
            have := HO3.out
            rw [List.flatMap_append]
            simpa [Ch.cells] using this
          case measure => simp [intOf]; omega
        · go_wp2_with fail
          go_roundw
          case rel =>
            have hf : rfold geS ⟨⟨kA, kn, kc, ks⟩, ⟨vA, vn, vc, vs⟩, dd⟩ (L.take (j + 1)) = (R, true) := by
              rw [HST.out, if_pos (of_decide_eq_true HT.out.symm)]
              rfl
            refine ⟨j + 1, m, A', c', by omega, by go_num, rfl, by rw [hf], by omega, ?_, ?_, ?_⟩
            · rw [hf]
              exact Lib.hid (New.own (New.dn (New.refl wr) _) HO.out)
            · exact Lib.hid (New.dn HN.out _)
            · exact Lib.hid ((New.dn (New.refl wr) _).blk HBB.out)
          case measure => simp [intOf]; omega
    · as_aux_lemma =>
      obtain rfl : j = n := by omega
      have ht : L.take j = L := by rw [← HL.out, List.take_length]
      rw [ht] at hfj
      have HFJ := Lib.hid hfj
      clear hfj
      cases db
      · go_wp2_with (first
          | ((with_reducible refine atOpS ⟨some 56, .buildSlice _ _ _, _, _, _, _⟩ ?_); refine wpList_bs1 elT (by decide) rfl (.tmp 55) rfl #[.slice kA kn kc, .slice vA vn vc, .bool dd] rfl rfl ?_)
          | (at_builtin; refine atOpS ⟨some 57, _, _, _, _, _⟩ ?_; refine stopHere ?_))
        refine ⟨?_⟩
        refine wpList_app (o := ⟨some 57, _, _, _, _, _⟩) elT _ rfl (.tmp 54) (.tmp 56) rfl (b3 + 1) (.slice A' m c') m (R.flatMap Ch.cells) rfl (New.own (New.al (New.refl wr) _) HO.out) _ 1 1 [.slice kA kn kc, .slice vA vn vc, .bool dd] rfl (Rd.ofBlk (p := fun _ => True) (Blk.new _ 49 #[.slice kA kn kc, .slice vA vn vc, .bool dd]) 3 1 rfl trivial) (cells_one ⟨⟨kA, kn, kc, ks⟩, ⟨vA, vn, vc, vs⟩, dd⟩) (by unfold maxLen; omega) (by omega) (by have := HBB.out.lt; simp; omega) ?_
        intro A2 d2 w3 hO3 hF3 hA3
        have HO3 : Hid (w3.ownsRow (b3 + 1) 49 3 (.slice A2 (m + 1) d2) (m + 1) ((R ++ [(⟨⟨kA, kn, kc, ks⟩, ⟨vA, vn, vc, vs⟩, dd⟩ : Ch)]).flatMap Ch.cells)) := Lib.hid (by rw [List.flatMap_append]; simpa [Ch.cells] using hO3)
        have HN3 : Hid (New w w3) := Lib.hid ((New.al HN.out _).fr hF3 (fun k hk => by have := (own_lt HO.out k hk).1; have := HZ.out.1; omega))
        clear hO3 hF3 hA3
        go_wp2_with fail
        go_ret
        refine ⟨⟨A2, m + 1, d2, rfl, by omega, ?_⟩, HN3.out⟩
        rw [← HZ.out.1]
        unfold rapp
        rw [HFJ.out]
        exact HO3.out
      · go_wp2_with fail
        go_ret
        refine ⟨⟨A', m, c', rfl, by omega, ?_⟩, HN.out⟩
        rw [← HZ.out.1]
        unfold rapp
        rw [HFJ.out]
        exact HO.out
end Go.Proofs.Ytfhinmjpokollaa
