/- Texts of one proof, one behind the other: KvN, KvO, KvQ, OpenS, OpenA. No condition but each one's own. -/
import Derived.Test.YtfhinmjpokollaaKvBatchesM6
import Derived.Sort.Walk0
import Derived.Test.YtfhinmjpokollaaKvBatchesM2
import Derived.SizedLaws
import Derived.OpenShut
/- The reference's Apply. No condition but that all can be read. -/
namespace Go.Proofs.Ytfhinmjpokollaa
set_option linter.unusedVariables false
set_option linter.unusedSimpArgs false
set_option linter.constructorNameAsVariable false
open Go.RowKit Go.Maps Go.Sort

/-- One round of the reference's Apply; `ge` holds the keys against each other. -/
def rstep (ge : List Int → List Int → Bool) (c : Ch) (s : List Ch × Bool) (x : Ch) : List Ch × Bool :=
  let s1 := if !s.2 && ge x.k.xs c.k.xs then (s.1 ++ [c], true) else s
  (if x.k.xs = c.k.xs then s1.1 else s1.1 ++ [x], s1.2)
/-- The order of strings, as the program asks for it. -/
def geS (xs ys : List Int) : Bool := !Op.bytesLess (strOfNums xs).toList (strOfNums ys).toList
def rfold (ge : List Int → List Int → Bool) (c : Ch) (L : List Ch) : List Ch × Bool := L.foldl (rstep ge c) ([], c.d)
def rapp (ge : List Int → List Int → Bool) (c : Ch) (L : List Ch) : List Ch := if (rfold ge c L).2 then (rfold ge c L).1 else (rfold ge c L).1 ++ [c]
theorem rfold_take {ge : List Int → List Int → Bool} {c : Ch} {L : List Ch} {k : Nat} (h : k < L.length) : rfold ge c (L.take (k + 1)) = rstep ge c (rfold ge c (L.take k)) L[k] := by
  unfold rfold
  rw [List.take_succ_eq_append_getElem h, List.foldl_append]
  rfl
theorem binOp_string_geq (t : TypeId) (a b : ByteArray) : binOp .geq t (.string a) (.string b) = pure (.bool !(Op.bytesLess a.toList b.toList)) := by simp [binOp, Op.stringOp]
theorem elT : ElemOf Try.prog 27 49 3 56 := ElemOf.mk' (z := .agg ch0.cells.toArray) Try.underlying27 (by kernel_rfl) rfl (by decide)

set_option maxRecDepth 100000 in
set_option maxHeartbeats 4000000 in
theorem rapply_any {P q : Nat → Prop} (A : Option Addr) (n c : Nat) (L : List Ch) (y : Ch) (w : World) (h : Rd P w 3 A n (L.flatMap Ch.cells)) (hL : L.length = n) (hn : n ≤ 100000000) (hb : ∀ c ∈ L, c.In P w) (hy : y.In q w) :
    Calls Try.prog 23 #[.slice A n c, .agg y.cells.toArray] w fun e w' => (∃ A' n' c', e = .returned (.slice A' n' c') ∧ n' ≤ 2 * n + 1 ∧ w'.ownsRow (w.heap.size + 1) 49 3 (.slice A' n' c') n' ((rapp geS y L).flatMap Ch.cells)) ∧ New w w' := by
  have HR := Lib.hid h
  have HL := Lib.hid hL
  have HB := Lib.hid hb
  have HY := Lib.hid hy
  obtain ⟨⟨kA, kn, kc, ks⟩, ⟨vA, vn, vc, vs⟩, dd⟩ := y
  clear h hL hb hy
  unfold Ch.cells
  dsimp only
  go_enter Try.func23, Try.ntmps23
  go_wp2_with fail
  obtain ⟨w0, hw0⟩ : ∃ w0 : World, w0 = (w.alloc (.cells #[.slice kA kn kc, .slice vA vn vc, .bool dd] 49)).alloc (.cells #[] 49) := ⟨_, rfl⟩
  obtain ⟨b3, hb3⟩ : ∃ b3, b3 = w.heap.size := ⟨_, rfl⟩
  have HN0 : Hid (New w w0) := Lib.hid (by rw [hw0]; exact New.al (New.al (New.refl _) _) _)
  have HB3 : Hid (Blk w0 b3 49 #[.slice kA kn kc, .slice vA vn vc, .bool dd]) := Lib.hid (by rw [hw0, hb3]; exact (Blk.new _ _ _).alloc _)
  have HO0 : Hid (w0.ownsRow (b3 + 1) 49 3 (.slice (some ⟨b3 + 1, 0, none⟩) 0 0) 0 []) := Lib.hid (by rw [hw0, hb3]; exact own_lit (Blk.new' _ 49 #[] (by simp)) (Nat.le_refl _))
  have HZ : Hid (b3 = w.heap.size ∧ w0.heap.size = b3 + 2) := Lib.hid ⟨hb3, by rw [hw0, hb3]; simp⟩
  rw [← hw0, ← hb3]
  clear hw0 hb3
  go_loopw [5, 6, 7] (fun s d i wr => ∃ (j m : Nat) (A' : Option Addr) (c' : Nat), j ≤ n ∧ i = .int .i64 j ∧ s = .slice A' m c' ∧ d = .bool (rfold geS ⟨⟨kA, kn, kc, ks⟩, ⟨vA, vn, vc, vs⟩, dd⟩ (L.take j)).2 ∧ m ≤ 2 * j ∧ Hid (wr.ownsRow (b3 + 1) 49 3 (.slice A' m c') m ((rfold geS ⟨⟨kA, kn, kc, ks⟩, ⟨vA, vn, vc, vs⟩, dd⟩ (L.take j)).1.flatMap Ch.cells)) ∧ Hid (New w wr) ∧ Hid (Blk wr b3 49 #[.slice kA kn kc, .slice vA vn vc, .bool dd])) (fun s d i _ => n - (intOf i).toNat)
  case atStart => exact ⟨0, 0, _, _, Nat.zero_le _, rfl, rfl, rfl, by omega, HO0, HN0, HB3⟩
  case round =>
    obtain ⟨j, m, A', c', hj, rfl, rfl, rfl, hm, HO, HN, HBB⟩ := hrel
    clear HO0 HN0 HB3
    generalize hfj : rfold geS ⟨⟨kA, kn, kc, ks⟩, ⟨vA, vn, vc, vs⟩, dd⟩ (L.take j) = f at *
    obtain ⟨R, db⟩ := f
    dsimp only at HO ⊢
    have e0 : wr.cell? ⟨b3, 0, none⟩ = some (.slice kA kn kc) := HBB.out.cell 0
    have e1 : wr.cell? ⟨b3, 1, none⟩ = some (.slice vA vn vc) := HBB.out.cell 1
    have e2 : wr.cell? ⟨b3, 2, none⟩ = some (.bool dd) := HBB.out.cell 2
    by_cases hlt : j < n
    · as_aux_lemma =>
      obtain ⟨g, o, hl, rfl, -, -, hrg⟩ := rd_row (f := Ch.cells) (L := L) (fun _ => rfl) (by omega) HR.out hlt
      have v0 : w.cell? ⟨g, o + j * 3, none⟩ = some (.slice L[j].k.A L[j].k.n L[j].k.c) := hrg 0 _ rfl
      have v1 : w.cell? ⟨g, o + j * 3 + 1, none⟩ = some (.slice L[j].v.A L[j].v.n L[j].v.c) := hrg 1 _ rfl
      have v2 : w.cell? ⟨g, o + j * 3 + 2, none⟩ = some (.bool L[j].d) := hrg 2 _ rfl
      have hin := HB.out L[j] (List.getElem_mem _)
      have hst := rfold_take (ge := geS) (c := ⟨⟨kA, kn, kc, ks⟩, ⟨vA, vn, vc, vs⟩, dd⟩) hl
      rw [hfj] at hst
      generalize L[j] = x at v0 v1 v2 hst hin
      obtain ⟨⟨xA, xn, xc, xs⟩, ⟨zA, zn, zc, zs⟩, xd⟩ := x
      dsimp only at v0 v1 v2 hin
      have c0 := New.cell_ HN.out v0
      have c1 := New.cell_ HN.out v1
      have c2 := New.cell_ HN.out v2
      have HV0 := Lib.hid v0
      have HV1 := Lib.hid v1
      have HV2 := Lib.hid v2
      have HIN := Lib.hid hin.k.rd
      clear v0 v1 v2
      unfold rstep at hst
      dsimp only at hst
      have hk1 := fun q => run_conv (c := xc) (w := wr.drewN q) (HN.out.rd hin.k.rd)
      have hk2 := fun q => run_conv (c := kc) (w := wr.drewN q) (HN.out.rd HY.out.k.rd)
      have h3 := str_inj hin.k.byt HY.out.k.byt
      have hg1 := binOp_string_geq 9 (strOfNums xs) (strOfNums ks)
      have hgd : Op.bytesLess (strOfNums xs).toList (strOfNums ks).toList = !geS xs ks := by simp [geS]
      dsimp only at hk1 hk2 h3
      rw [hgd, Bool.not_not] at hg1
      obtain ⟨s1, hs1⟩ : ∃ s1, s1 = strOfNums xs := ⟨_, rfl⟩
      obtain ⟨s2, hs2⟩ : ∃ s2, s2 = strOfNums ks := ⟨_, rfl⟩
      rw [← hs1, ← hs2] at h3 hg1
      simp only [← hs1] at hk1
      simp only [← hs2] at hk2
      have HS1 := Lib.hid hs1
      have HS2 := Lib.hid hs2
      clear hs1 hs2
      obtain ⟨r, hr⟩ : ∃ r, r = geS xs ks := ⟨_, rfl⟩
      obtain ⟨t, ht⟩ : ∃ t, t = decide (xs = ks) := ⟨_, rfl⟩
      rw [← hr] at hg1 hst
      rw [← ht] at h3
      have HST := Lib.hid hst
      have HT := Lib.hid ht
      have hj0 : (0 : Int) ≤ (j : Int) := by omega
      have hjn : (j : Int) < (n : Int) := by omega
      clear hrg hl hst hin hr hgd ht hfj
      go_wp2_with fail
      cases db
      · go_quiet (fail)
        cases r
        · go_wp2_with fail
          go_quiet (fail)
          cases t
          · go_wp2_with (first
              | ((with_reducible refine atOpS ⟨some 50, .buildSlice _ _ _, _, _, _, _⟩ ?_); refine wpList_bs1 elT (by decide) rfl (.tmp 49) rfl #[.slice xA xn xc, .slice zA zn zc, .bool xd] rfl rfl ?_)
              | (at_builtin; refine atOpS ⟨some 51, _, _, _, _, _⟩ ?_; refine stopHere ?_))
            refine ⟨?_⟩
            refine wpList_app (o := ⟨some 51, _, _, _, _, _⟩) elT _ rfl (.tmp 45) (.tmp 50) rfl (b3 + 1) (.slice A' m c') m (R.flatMap Ch.cells) rfl (New.own (New.al (New.dn (New.refl wr) _) _) HO.out) _ 1 1 [.slice xA xn xc, .slice zA zn zc, .bool xd] rfl (Rd.ofBlk (p := fun _ => True) (Blk.new _ 49 #[.slice xA xn xc, .slice zA zn zc, .bool xd]) 3 1 rfl trivial) (cells_one ⟨⟨xA, xn, xc, xs⟩, ⟨zA, zn, zc, zs⟩, xd⟩) (by unfold maxLen; omega) (by omega) (by have := HBB.out.lt; simp; omega) ?_
            intro A2 d2 w3 hO3 hF3 hA3
            have HO3 := Lib.hid hO3
            have HN3 : Hid (New w w3) := Lib.hid ((New.al (New.dn HN.out _) _).fr hF3 (fun k hk => by have := (own_lt HO.out k hk).1; have := HZ.out.1; omega))
            have HB3 : Hid (Blk w3 b3 49 #[.slice kA kn kc, .slice vA vn vc, .bool dd]) := Lib.hid (((New.al (New.dn (New.refl wr) _) _).blk HBB.out).fr hF3 (fun hk => by have := (own_lt HO.out b3 hk).1; omega))
            clear hO3 hF3 hA3
            go_wp2_with fail
            go_roundw
            case rel =>
              have hf : rfold geS ⟨⟨kA, kn, kc, ks⟩, ⟨vA, vn, vc, vs⟩, dd⟩ (L.take (j + 1)) = (R ++ [⟨⟨xA, xn, xc, xs⟩, ⟨zA, zn, zc, zs⟩, xd⟩], false) := by
                rw [HST.out, if_neg (of_decide_eq_false HT.out.symm)]
                rfl
              refine ⟨j + 1, m + 1, A2, d2, by omega, by go_num, rfl, by rw [hf], by omega, ?_, HN3, HB3⟩
              rw [hf]
              refine Lib.hid ?_
              have := HO3.out
              rw [List.flatMap_append]
              simpa [Ch.cells] using this
            case measure => simp [intOf]; omega
          · go_wp2_with fail
            go_roundw
            case rel =>
              have hf : rfold geS ⟨⟨kA, kn, kc, ks⟩, ⟨vA, vn, vc, vs⟩, dd⟩ (L.take (j + 1)) = (R, false) := by
                rw [HST.out, if_pos (of_decide_eq_true HT.out.symm)]
                rfl
              refine ⟨j + 1, m, A', c', by omega, by go_num, rfl, by rw [hf], by omega, ?_, ?_, ?_⟩
              · rw [hf]
                exact Lib.hid (New.own (New.dn (New.refl wr) _) HO.out)
              · exact Lib.hid (New.dn HN.out _)
              · exact Lib.hid ((New.dn (New.refl wr) _).blk HBB.out)
            case measure => simp [intOf]; omega
        · go_wp2_with (first
            | ((with_reducible refine atOpS ⟨some 33, .buildSlice _ _ _, _, _, _, _⟩ ?_); refine wpList_bs1 elT (by decide) rfl (.tmp 32) rfl #[.slice kA kn kc, .slice vA vn vc, .bool dd] rfl rfl ?_)
            | (at_builtin; refine atOpS ⟨some 34, _, _, _, _, _⟩ ?_; refine stopHere ?_))
          refine ⟨?_⟩
          refine wpList_app (o := ⟨some 34, _, _, _, _, _⟩) elT _ rfl (.tmp 31) (.tmp 33) rfl (b3 + 1) (.slice A' m c') m (R.flatMap Ch.cells) rfl (New.own (New.al (New.dn (New.refl wr) _) _) HO.out) _ 1 1 [.slice kA kn kc, .slice vA vn vc, .bool dd] rfl (Rd.ofBlk (p := fun _ => True) (Blk.new _ 49 #[.slice kA kn kc, .slice vA vn vc, .bool dd]) 3 1 rfl trivial) (cells_one ⟨⟨kA, kn, kc, ks⟩, ⟨vA, vn, vc, vs⟩, dd⟩) (by unfold maxLen; omega) (by omega) (by have := HBB.out.lt; simp; omega) ?_
          intro A2 d2 w3 hO3 hF3 hA3
          have HO3 : Hid (w3.ownsRow (b3 + 1) 49 3 (.slice A2 (m + 1) d2) (m + 1) ((R ++ [(⟨⟨kA, kn, kc, ks⟩, ⟨vA, vn, vc, vs⟩, dd⟩ : Ch)]).flatMap Ch.cells)) := Lib.hid (by rw [List.flatMap_append]; simpa [Ch.cells] using hO3)
          have HN3 : Hid (New w w3) := Lib.hid ((New.al (New.dn HN.out _) _).fr hF3 (fun k hk => by have := (own_lt HO.out k hk).1; have := HZ.out.1; omega))
          have HB3 : Hid (Blk w3 b3 49 #[.slice kA kn kc, .slice vA vn vc, .bool dd]) := Lib.hid (((New.al (New.dn (New.refl wr) _) _).blk HBB.out).fr hF3 (fun hk => by have := (own_lt HO.out b3 hk).1; omega))
          clear hO3 hF3 hA3 e0 e1 e2 c0 c1 c2 hk1 hk2
          have e0 : w3.cell? ⟨b3, 0, none⟩ = some (.slice kA kn kc) := HB3.out.cell 0
          have c0 := New.cell_ HN3.out HV0.out
          have c1 := New.cell_ HN3.out HV1.out
          have c2 := New.cell_ HN3.out HV2.out
          have hk1 := fun q => run_conv (c := xc) (w := w3.drewN q) (HN3.out.rd HIN.out)
          have hk2 := fun q => run_conv (c := kc) (w := w3.drewN q) (HN3.out.rd HY.out.k.rd)
          dsimp only at hk1 hk2
          simp only [← HS1.out] at hk1
          simp only [← HS2.out] at hk2
          go_wp2_with fail
          go_quiet (fail)
          cases t
          · go_wp2_with (first
              | ((with_reducible refine atOpS ⟨some 50, .buildSlice _ _ _, _, _, _, _⟩ ?_); refine wpList_bs1 elT (by decide) rfl (.tmp 49) rfl #[.slice xA xn xc, .slice zA zn zc, .bool xd] rfl rfl ?_)
              | (at_builtin; refine atOpS ⟨some 51, _, _, _, _, _⟩ ?_; refine stopHere ?_))
            refine ⟨?_⟩
            refine wpList_app (o := ⟨some 51, _, _, _, _, _⟩) elT _ rfl (.tmp 45) (.tmp 50) rfl (b3 + 1) (.slice A2 (m + 1) d2) (m + 1) ((R ++ [(⟨⟨kA, kn, kc, ks⟩, ⟨vA, vn, vc, vs⟩, dd⟩ : Ch)]).flatMap Ch.cells) rfl (New.own (New.al (New.dn (New.refl w3) _) _) HO3.out) _ 1 1 [.slice xA xn xc, .slice zA zn zc, .bool xd] rfl (Rd.ofBlk (p := fun _ => True) (Blk.new _ 49 #[.slice xA xn xc, .slice zA zn zc, .bool xd]) 3 1 rfl trivial) (cells_one ⟨⟨xA, xn, xc, xs⟩, ⟨zA, zn, zc, zs⟩, xd⟩) (by unfold maxLen; omega) (by omega) (by have := HB3.out.lt; simp; omega) ?_
            intro A4 d4 w5 hO5 hF5 hA5
            have HO5 := Lib.hid hO5
            have HN5 : Hid (New w w5) := Lib.hid ((New.al (New.dn HN3.out _) _).fr hF5 (fun k hk => by have := (own_lt HO3.out k hk).1; have := HZ.out.1; omega))
            have HB5 : Hid (Blk w5 b3 49 #[.slice kA kn kc, .slice vA vn vc, .bool dd]) := Lib.hid (((New.al (New.dn (New.refl w3) _) _).blk HB3.out).fr hF5 (fun hk => by have := (own_lt HO3.out b3 hk).1; omega))
            clear hO5 hF5 hA5
            go_wp2_with fail
            go_roundw
            case rel =>
              have hf : rfold geS ⟨⟨kA, kn, kc, ks⟩, ⟨vA, vn, vc, vs⟩, dd⟩ (L.take (j + 1)) = (R ++ [(⟨⟨kA, kn, kc, ks⟩, ⟨vA, vn, vc, vs⟩, dd⟩ : Ch)] ++ [⟨⟨xA, xn, xc, xs⟩, ⟨zA, zn, zc, zs⟩, xd⟩], true) := by
                rw [HST.out, if_neg (of_decide_eq_false HT.out.symm)]
                rfl
              refine ⟨j + 1, m + 1 + 1, A4, d4, by omega, by go_num, rfl, by rw [hf], by omega, ?_, HN5, HB5⟩
              rw [hf]
              refine Lib.hid ?_
              have := HO5.out
              rw [List.flatMap_append]
              simpa [Ch.cells] using this
            case measure => simp [intOf]; omega
          · go_wp2_with fail
            go_roundw
            case rel =>
              have hf : rfold geS ⟨⟨kA, kn, kc, ks⟩, ⟨vA, vn, vc, vs⟩, dd⟩ (L.take (j + 1)) = (R ++ [(⟨⟨kA, kn, kc, ks⟩, ⟨vA, vn, vc, vs⟩, dd⟩ : Ch)], true) := by
                rw [HST.out, if_pos (of_decide_eq_true HT.out.symm)]
                rfl
              refine ⟨j + 1, m + 1, A2, d2, by omega, by go_num, rfl, by rw [hf], by omega, ?_, ?_, ?_⟩
              · rw [hf]
                exact Lib.hid (New.own (New.dn (New.refl w3) _) HO3.out)
              · exact Lib.hid (New.dn HN3.out _)
              · exact Lib.hid ((New.dn (New.refl w3) _).blk HB3.out)
            case measure => simp [intOf]; omega
      · go_quiet (fail)
        go_wp2_with fail
        go_quiet (fail)
        cases t
        · go_wp2_with (first
            | ((with_reducible refine atOpS ⟨some 50, .buildSlice _ _ _, _, _, _, _⟩ ?_); refine wpList_bs1 elT (by decide) rfl (.tmp 49) rfl #[.slice xA xn xc, .slice zA zn zc, .bool xd] rfl rfl ?_)
            | (at_builtin; refine atOpS ⟨some 51, _, _, _, _, _⟩ ?_; refine stopHere ?_))
          refine ⟨?_⟩
          refine wpList_app (o := ⟨some 51, _, _, _, _, _⟩) elT _ rfl (.tmp 45) (.tmp 50) rfl (b3 + 1) (.slice A' m c') m (R.flatMap Ch.cells) rfl (New.own (New.al (New.dn (New.refl wr) _) _) HO.out) _ 1 1 [.slice xA xn xc, .slice zA zn zc, .bool xd] rfl (Rd.ofBlk (p := fun _ => True) (Blk.new _ 49 #[.slice xA xn xc, .slice zA zn zc, .bool xd]) 3 1 rfl trivial) (cells_one ⟨⟨xA, xn, xc, xs⟩, ⟨zA, zn, zc, zs⟩, xd⟩) (by unfold maxLen; omega) (by omega) (by have := HBB.out.lt; simp; omega) ?_
          intro A2 d2 w3 hO3 hF3 hA3
          have HO3 := Lib.hid hO3
          have HN3 : Hid (New w w3) := Lib.hid ((New.al (New.dn HN.out _) _).fr hF3 (fun k hk => by have := (own_lt HO.out k hk).1; have := HZ.out.1; omega))
          have HB3 : Hid (Blk w3 b3 49 #[.slice kA kn kc, .slice vA vn vc, .bool dd]) := Lib.hid (((New.al (New.dn (New.refl wr) _) _).blk HBB.out).fr hF3 (fun hk => by have := (own_lt HO.out b3 hk).1; omega))
          clear hO3 hF3 hA3
          go_wp2_with fail
          go_roundw
          case rel =>
            have hf : rfold geS ⟨⟨kA, kn, kc, ks⟩, ⟨vA, vn, vc, vs⟩, dd⟩ (L.take (j + 1)) = (R ++ [⟨⟨xA, xn, xc, xs⟩, ⟨zA, zn, zc, zs⟩, xd⟩], true) := by
              rw [HST.out, if_neg (of_decide_eq_false HT.out.symm)]
              rfl
            refine ⟨j + 1, m + 1, A2, d2, by omega, by go_num, rfl, by rw [hf], by omega, ?_, HN3, HB3⟩
            rw [hf]
            refine Lib.hid ?_
            have := HO3.out
            rw [List.flatMap_append]
            simpa [Ch.cells] using this
          case measure => simp [intOf]; omega
        · go_wp2_with fail
          go_roundw
          case rel =>
            have hf : rfold geS ⟨⟨kA, kn, kc, ks⟩, ⟨vA, vn, vc, vs⟩, dd⟩ (L.take (j + 1)) = (R, true) := by
              rw [HST.out, if_pos (of_decide_eq_true HT.out.symm)]
              rfl
            refine ⟨j + 1, m, A', c', by omega, by go_num, rfl, by rw [hf], by omega, ?_, ?_, ?_⟩
            · rw [hf]
              exact Lib.hid (New.own (New.dn (New.refl wr) _) HO.out)
            · exact Lib.hid (New.dn HN.out _)
            · exact Lib.hid ((New.dn (New.refl wr) _).blk HBB.out)
          case measure => simp [intOf]; omega
    · as_aux_lemma =>
      obtain rfl : j = n := by omega
      have ht : L.take j = L := by rw [← HL.out, List.take_length]
      rw [ht] at hfj
      have HFJ := Lib.hid hfj
      clear hfj
      cases db
      · go_wp2_with (first
          | ((with_reducible refine atOpS ⟨some 56, .buildSlice _ _ _, _, _, _, _⟩ ?_); refine wpList_bs1 elT (by decide) rfl (.tmp 55) rfl #[.slice kA kn kc, .slice vA vn vc, .bool dd] rfl rfl ?_)
          | (at_builtin; refine atOpS ⟨some 57, _, _, _, _, _⟩ ?_; refine stopHere ?_))
        refine ⟨?_⟩
        refine wpList_app (o := ⟨some 57, _, _, _, _, _⟩) elT _ rfl (.tmp 54) (.tmp 56) rfl (b3 + 1) (.slice A' m c') m (R.flatMap Ch.cells) rfl (New.own (New.al (New.refl wr) _) HO.out) _ 1 1 [.slice kA kn kc, .slice vA vn vc, .bool dd] rfl (Rd.ofBlk (p := fun _ => True) (Blk.new _ 49 #[.slice kA kn kc, .slice vA vn vc, .bool dd]) 3 1 rfl trivial) (cells_one ⟨⟨kA, kn, kc, ks⟩, ⟨vA, vn, vc, vs⟩, dd⟩) (by unfold maxLen; omega) (by omega) (by have := HBB.out.lt; simp; omega) ?_
        intro A2 d2 w3 hO3 hF3 hA3
        have HO3 : Hid (w3.ownsRow (b3 + 1) 49 3 (.slice A2 (m + 1) d2) (m + 1) ((R ++ [(⟨⟨kA, kn, kc, ks⟩, ⟨vA, vn, vc, vs⟩, dd⟩ : Ch)]).flatMap Ch.cells)) := Lib.hid (by rw [List.flatMap_append]; simpa [Ch.cells] using hO3)
        have HN3 : Hid (New w w3) := Lib.hid ((New.al HN.out _).fr hF3 (fun k hk => by have := (own_lt HO.out k hk).1; have := HZ.out.1; omega))
        clear hO3 hF3 hA3
        go_wp2_with fail
        go_ret
        refine ⟨⟨A2, m + 1, d2, rfl, by omega, ?_⟩, HN3.out⟩
        rw [← HZ.out.1]
        unfold rapp
        rw [HFJ.out]
        exact HO3.out
      · go_wp2_with fail
        go_ret
        refine ⟨⟨A', m, c', rfl, by omega, ?_⟩, HN.out⟩
        rw [← HZ.out.1]
        unfold rapp
        rw [HFJ.out]
        exact HO.out
end Go.Proofs.Ytfhinmjpokollaa
/- The reference's Do. No condition but that all can be read. -/
namespace Go.Proofs.Ytfhinmjpokollaa
set_option linter.unusedVariables false
set_option linter.unusedSimpArgs false
set_option linter.constructorNameAsVariable false
open Go.RowKit Go.Maps Go.Sort

theorem rfold_len (ge : List Int → List Int → Bool) (c : Ch) (L : List Ch) : (rfold ge c L).1.length ≤ L.length + 1 ∧ ((rfold ge c L).2 = false → (rfold ge c L).1.length ≤ L.length) := by
  suffices h : ∀ j, j ≤ L.length → (rfold ge c (L.take j)).1.length ≤ j + 1 ∧ ((rfold ge c (L.take j)).2 = false → (rfold ge c (L.take j)).1.length ≤ j) by
    have := h L.length (Nat.le_refl _)
    rwa [List.take_length] at this
  intro j
  induction j with
  | zero => intro _; simp [rfold]
  | succ j ih =>
    intro hj
    obtain ⟨h1, h2⟩ := ih (by omega)
    rw [rfold_take (by omega)]
    generalize rfold ge c (L.take j) = f at h1 h2
    obtain ⟨R, db⟩ := f
    generalize L[j] = x
    unfold rstep
    dsimp only at h1 h2 ⊢
    cases db
    · have h2 := h2 rfl
      cases ge x.k.xs c.k.xs
      · by_cases he : x.k.xs = c.k.xs
        · simp [he]; omega
        · simp [he]; omega
      · by_cases he : x.k.xs = c.k.xs
        · simp [he]; omega
        · simp [he]; omega
    · by_cases he : x.k.xs = c.k.xs
      · simp [he]; omega
      · simp [he]; omega
theorem rapp_len (ge : List Int → List Int → Bool) (c : Ch) (L : List Ch) : (rapp ge c L).length ≤ L.length + 1 := by
  obtain ⟨h1, h2⟩ := rfold_len ge c L
  unfold rapp
  cases hd : (rfold ge c L).2
  · have := h2 hd
    simp; omega
  · simpa using h1
theorem rfold_mem (ge : List Int → List Int → Bool) (c : Ch) (L : List Ch) : ∀ x ∈ (rfold ge c L).1, x ∈ L ∨ x = c := by
  suffices h : ∀ j, j ≤ L.length → ∀ x ∈ (rfold ge c (L.take j)).1, x ∈ L ∨ x = c by
    have := h L.length (Nat.le_refl _)
    rwa [List.take_length] at this
  intro j
  induction j with
  | zero => intro _ x hx; simp [rfold] at hx
  | succ j ih =>
    intro hj x hx
    have ih := ih (by omega)
    rw [rfold_take (by omega)] at hx
    have hm : L[j] ∈ L := List.getElem_mem _
    generalize rfold ge c (L.take j) = f at ih hx
    generalize L[j] = y at hm hx
    unfold rstep at hx
    dsimp only at hx
    have h1 : x ∈ (if !f.2 && ge y.k.xs c.k.xs then (f.1 ++ [c], true) else f).1 → x ∈ L ∨ x = c := by
      intro h
      split at h
      · rcases List.mem_append.1 h with h | h
        · exact ih x h
        · exact .inr (List.mem_singleton.1 h)
      · exact ih x h
    split at hx
    · exact h1 hx
    · rcases List.mem_append.1 hx with h | h
      · exact h1 h
      · exact .inl ((List.mem_singleton.1 h) ▸ hm)
theorem rapp_mem (ge : List Int → List Int → Bool) (c : Ch) (L : List Ch) : ∀ x ∈ rapp ge c L, x ∈ L ∨ x = c := by
  intro x hx
  unfold rapp at hx
  split at hx
  · exact rfold_mem ge c L x hx
  · rcases List.mem_append.1 hx with h | h
    · exact rfold_mem ge c L x h
    · exact .inr (List.mem_singleton.1 h)
def rdo (L C : List Ch) : List Ch := C.foldl (fun T c => rapp geS c T) L
theorem rdo_take {L C : List Ch} {k : Nat} (h : k < C.length) : rdo L (C.take (k + 1)) = rapp geS C[k] (rdo L (C.take k)) := by
  unfold rdo
  rw [List.take_succ_eq_append_getElem h, List.foldl_append]
  rfl
theorem szs {P : Nat → Prop} {w : World} {x : Fm} (h : x.In P w) : x.In (fun b => b < w.heap.size) w := ⟨rd_szs h.rd, h.byt⟩
theorem Ch.In.szs {P : Nat → Prop} {w : World} {c : Ch} (h : c.In P w) : c.In (fun b => b < w.heap.size) w := ⟨Go.Proofs.Ytfhinmjpokollaa.szs h.k, Go.Proofs.Ytfhinmjpokollaa.szs h.v⟩
/-- A slice of changes, of a table of the reference. -/
structure RTb (w : World) (A : Option Addr) (n : Nat) (L : List Ch) : Prop where
  rd : Rd (fun b => b < w.heap.size) w 3 A n (L.flatMap Ch.cells)
  len : L.length = n
  el : ∀ c ∈ L, c.In (fun b => b < w.heap.size) w
theorem cells_len (L : List Ch) : (L.flatMap Ch.cells).length = L.length * 3 := by
  induction L with
  | nil => rfl
  | cons c L ih => rw [List.flatMap_cons, List.length_append, ih]; simp [Ch.cells]; omega
theorem RTb.new {w w' : World} {A : Option Addr} {n : Nat} {L : List Ch} (h : RTb w A n L) (hN : New w w') : RTb w' A n L :=
  ⟨rd_szs (hN.rd h.rd), h.len, fun c hc => Ch.In.szs ((h.el c hc).new hN)⟩
theorem RTb.nil (w : World) : RTb w none 0 [] := ⟨Rd.nil, rfl, fun c h => by cases h⟩
theorem rapply_tb (A : Option Addr) (n c : Nat) (L : List Ch) (y : Ch) (w : World) (h : RTb w A n L) (hn : n ≤ 100000000) {q : Nat → Prop} (hy : y.In q w) :
    Calls Try.prog 23 #[.slice A n c, .agg y.cells.toArray] w fun e w' => (∃ A' n' c', e = .returned (.slice A' n' c') ∧ RTb w' A' n' (rapp geS y L)) ∧ New w w' := by
  refine (rapply_any A n c L y w h.rd h.len hn h.el hy).mono ?_
  rintro e w' ⟨⟨A', n', c', rfl, -, hO⟩, hN⟩
  refine ⟨⟨A', n', c', rfl, rd_szs (Rd.own hO rfl), ?_, fun x hx => ?_⟩, hN⟩
  · have := hO.1
    rw [cells_len] at this
    omega
  · rcases rapp_mem geS y L x hx with hx | rfl
    · exact Ch.In.szs ((h.el x hx).new hN)
    · exact Ch.In.szs (hy.new hN)
theorem rdo_len (L C : List Ch) : (rdo L C).length ≤ L.length + C.length := by
  unfold rdo
  induction C generalizing L with
  | nil => simp
  | cons c C ih =>
    rw [List.foldl_cons]
    have := ih (rapp geS c L)
    have := rapp_len geS c L
    rw [List.length_cons]
    omega
set_option maxRecDepth 100000 in
set_option maxHeartbeats 2000000 in
theorem rdo_any (A : Option Addr) (n c : Nat) (L : List Ch) (B : Option Addr) (m d : Nat) (C : List Ch) (w : World) (h : RTb w A n L) (hC : RTb w B m C) (hn : n + m ≤ 1000000) :
    Calls Try.prog 18 #[.slice A n c, .slice B m d] w fun e w' => (∃ A' n' c', e = .returned (.slice A' n' c') ∧ RTb w' A' n' (rdo L C)) ∧ New w w' := by
  have H := Lib.hid h
  have HC := Lib.hid hC
  clear h hC
  go_enter Try.func18, Try.ntmps18
  go_wp2_with fail
  go_loopw [0, 5] (fun s i wr => ∃ (j n' : Nat) (A' : Option Addr) (c' : Nat), j ≤ m ∧ i = .int .i64 j ∧ s = .slice A' n' c' ∧ Hid (RTb wr A' n' (rdo L (C.take j))) ∧ Hid (New w wr)) (fun s i _ => m - (intOf i).toNat)
  case atStart => exact ⟨0, n, A, c, Nat.zero_le _, rfl, rfl, H, Lib.hid (New.refl w)⟩
  case round =>
    obtain ⟨j, n', A', c', hj, rfl, rfl, HT, HN⟩ := hrel
    by_cases hlt : j < m
    · as_aux_lemma =>
      obtain ⟨g, o, hl, rfl, -, -, hrg⟩ := rd_row (f := Ch.cells) (L := C) (fun _ => rfl) (by omega) (HN.out.rd HC.out.rd) hlt
      have c0 : wr.cell? ⟨g, o + j * 3, none⟩ = some (.slice C[j].k.A C[j].k.n C[j].k.c) := hrg 0 _ rfl
      have c1 : wr.cell? ⟨g, o + j * 3 + 1, none⟩ = some (.slice C[j].v.A C[j].v.n C[j].v.c) := hrg 1 _ rfl
      have c2 : wr.cell? ⟨g, o + j * 3 + 2, none⟩ = some (.bool C[j].d) := hrg 2 _ rfl
      have hin := (HC.out.el C[j] (List.getElem_mem _)).new HN.out
      have hst := rdo_take (L := L) hl
      have hnl : n' ≤ 1000000 := by
        have h1 := HT.out.len
        have h2 := rdo_len L (C.take j)
        have h3 := H.out.len
        have h4 := HC.out.len
        rw [List.length_take] at h2
        omega
      generalize C[j] = x at c0 c1 c2 hin hst
      have HIN := Lib.hid hin
      have HST := Lib.hid hst
      have hcv : (.agg x.cells.toArray : Value) = .agg #[.slice x.k.A x.k.n x.k.c, .slice x.v.A x.v.n x.v.c, .bool x.d] := rfl
      have HCV := Lib.hid hcv
      have hj0 : (0 : Int) ≤ (j : Int) := by omega
      have hjn : (j : Int) < (m : Int) := by omega
      clear hrg hl hst hin hcv
      go_wp2_with fail
      rw [← HCV.out]
      refine (rapply_tb A' n' c' _ x wr HT.out (by omega) HIN.out).mono ?_
      rintro e w3 ⟨⟨A3, n3, c3, rfl, hT3⟩, hN3⟩
      rw [← HST.out] at hT3
      have HT3 := Lib.hid hT3
      have HN3 := Lib.hid (HN.out.tr hN3)
      clear hT3 hN3
      go_wp2_with fail
      go_roundw
      case rel => exact ⟨j + 1, n3, A3, c3, by omega, by go_num, rfl, HT3, HN3⟩
      case measure => simp [intOf]; omega
    · as_aux_lemma =>
      obtain rfl : j = m := by omega
      go_wp2_with fail
      go_ret
      have ht : C.take j = C := by rw [← HC.out.len, List.take_length]
      have hT := HT.out
      rw [ht] at hT
      exact ⟨⟨A', n', c', rfl, hT⟩, HN.out⟩
end Go.Proofs.Ytfhinmjpokollaa
/- In plain words: the reference's list of changes, in order of the keys, goes as the table goes. No condition but nodup keys of bytes. -/
namespace Go.Proofs.Ytfhinmjpokollaa
set_option linter.unusedVariables false
set_option linter.unusedSimpArgs false
set_option linter.constructorNameAsVariable false
open Go.RowKit Go.Maps Go.Sort

def cl (L : List Ch) : CT := L.map fun c => (c.k.xs, c.v.xs)
def lek (a b : List Int × List Int) : Bool := leB (sb a.1) (sb b.1)
theorem sb_toList (xs : List Int) : (strOfNums xs).toList = sb xs := by
  unfold sb
  exact ByteArray.toList_eq _
theorem geS_eq (x y : List Int) : geS x y = leB (sb y) (sb x) := by
  unfold geS
  rw [sb_toList, sb_toList, bytesLess_eq]
  unfold leB
  by_cases h : sb x < sb y
  · have : ¬ sb y ≤ sb x := List.not_le.2 h
    simp [h, this]
  · have : sb y ≤ sb x := List.not_lt.1 h
    simp [h, this]
theorem sb_inj {xs ys : List Int} (hx : Byt xs) (hy : Byt ys) (h : sb xs = sb ys) : xs = ys := by
  refine key_inj hx hy ?_
  unfold key
  unfold sb at h
  rw [h]
theorem lek_trans (a b c : List Int × List Int) (h1 : lek a b = true) (h2 : lek b c = true) : lek a c = true := by
  simp only [lek, leB, decide_eq_true_eq] at *
  exact List.le_trans h1 h2
theorem lek_total (a b : List Int × List Int) : (lek a b || lek b a) = true := by
  simp only [lek, leB, Bool.or_eq_true, decide_eq_true_eq]
  exact List.le_total _ _
theorem geS_refl (x : List Int) : geS x x = true := by
  rw [geS_eq]
  simp [leB]
theorem tw_mem {α : Type} {p : α → Bool} {l : List α} : ∀ x ∈ l.takeWhile p, p x = true := by
  induction l with
  | nil => intro x hx; cases hx
  | cons y l ih =>
    intro x hx
    by_cases h : p y = true
    · rw [List.takeWhile_cons_of_pos h] at hx
      rcases List.mem_cons.1 hx with rfl | hx
      · exact h
      · exact ih x hx
    · rw [List.takeWhile_cons_of_neg h] at hx
      cases hx
theorem tw_all {α : Type} {p : α → Bool} {l : List α} (h : ∀ x ∈ l, p x = true) : l.takeWhile p = l := by
  induction l with
  | nil => rfl
  | cons y l ih =>
    rw [List.takeWhile_cons_of_pos (h y (List.mem_cons_self ..)), ih fun x hx => h x (List.mem_cons_of_mem _ hx)]
section
variable (c : Ch)
theorem rstep_true (R : List Ch) (x : Ch) : rstep geS c (R, true) x = (if x.k.xs = c.k.xs then R else R ++ [x], true) := by
  unfold rstep
  simp
theorem rfold_true (L : List Ch) (R : List Ch) : L.foldl (rstep geS c) (R, true) = (R ++ L.filter (fun x => decide (x.k.xs ≠ c.k.xs)), true) := by
  induction L generalizing R with
  | nil => simp
  | cons x L ih =>
    rw [List.foldl_cons, rstep_true, ih]
    by_cases h : x.k.xs = c.k.xs
    · simp [h]
    · simp [h]
theorem rfold_false (L : List Ch) (R : List Ch) : L.foldl (rstep geS c) (R, false) =
    if L.all (fun x => !geS x.k.xs c.k.xs) then (R ++ L, false) else (R ++ L.takeWhile (fun x => !geS x.k.xs c.k.xs) ++ [c] ++ (L.dropWhile (fun x => !geS x.k.xs c.k.xs)).filter (fun x => decide (x.k.xs ≠ c.k.xs)), true) := by
  induction L generalizing R with
  | nil => simp
  | cons x L ih =>
    rw [List.foldl_cons]
    by_cases hg : geS x.k.xs c.k.xs = true
    · have hs : rstep geS c (R, false) x = (if x.k.xs = c.k.xs then R ++ [c] else R ++ [c] ++ [x], true) := by
        unfold rstep
        simp [hg]
      rw [hs, rfold_true]
      have hna : ¬ (x :: L).all (fun x => !geS x.k.xs c.k.xs) = true := fun h => by
        have := List.all_eq_true.1 h x (List.mem_cons_self ..)
        rw [hg] at this
        cases this
      rw [if_neg hna, List.takeWhile_cons_of_neg (by rw [hg]; decide), List.dropWhile_cons_of_neg (by rw [hg]; decide)]
      by_cases h : x.k.xs = c.k.xs
      · rw [if_pos h, List.filter_cons_of_neg (by simpa using h), List.append_nil]
      · rw [if_neg h, List.filter_cons_of_pos (by simpa using h), List.append_nil, List.append_assoc, List.append_assoc, List.append_assoc]
        rfl
    · have hg : geS x.k.xs c.k.xs = false := by simpa using hg
      have hne : ¬ x.k.xs = c.k.xs := fun e => by rw [e, geS_refl] at hg; cases hg
      have hs : rstep geS c (R, false) x = (R ++ [x], false) := by
        unfold rstep
        simp [hg, hne]
      rw [hs, ih, List.takeWhile_cons_of_pos (by simp [hg]), List.dropWhile_cons_of_pos (by simp [hg])]
      by_cases ha : L.all (fun x => !geS x.k.xs c.k.xs) = true
      · rw [if_pos ha, if_pos (by simp [hg]; simpa using ha)]
        simp
      · rw [if_neg ha, if_neg (by simp [hg]; simpa using ha)]
        simp
theorem rapp_eq (L : List Ch) : rapp geS c L = if c.d then L.filter (fun x => decide (x.k.xs ≠ c.k.xs)) else L.takeWhile (fun x => !geS x.k.xs c.k.xs) ++ [c] ++ (L.dropWhile (fun x => !geS x.k.xs c.k.xs)).filter (fun x => decide (x.k.xs ≠ c.k.xs)) := by
  unfold rapp rfold
  cases c.d
  · rw [rfold_false]
    by_cases ha : L.all (fun x => !geS x.k.xs c.k.xs) = true
    · rw [if_pos ha]
      have h1 : L.takeWhile (fun x => !geS x.k.xs c.k.xs) = L := by
        exact tw_all (List.all_eq_true.1 ha)
      have h2 : L.dropWhile (fun x => !geS x.k.xs c.k.xs) = [] := by
        have := List.takeWhile_append_dropWhile (p := fun x => !geS x.k.xs c.k.xs) (l := L)
        rw [h1] at this
        simpa using this
      rw [h1, h2]
      simp
    · rw [if_neg ha]
      simp
  · rw [rfold_true]
    simp
theorem rapp_perm (L : List Ch) : (rapp geS c L).Perm (if c.d then L.filter (fun x => decide (x.k.xs ≠ c.k.xs)) else L.filter (fun x => decide (x.k.xs ≠ c.k.xs)) ++ [c]) := by
  rw [rapp_eq]
  cases c.d
  · rw [if_neg (by simp), if_neg (by simp)]
    have h : L.filter (fun x => decide (x.k.xs ≠ c.k.xs)) = L.takeWhile (fun x => !geS x.k.xs c.k.xs) ++ (L.dropWhile (fun x => !geS x.k.xs c.k.xs)).filter (fun x => decide (x.k.xs ≠ c.k.xs)) := by
      conv => lhs; rw [← List.takeWhile_append_dropWhile (p := fun x => !geS x.k.xs c.k.xs) (l := L)]
      rw [List.filter_append]
      congr 1
      rw [List.filter_eq_self]
      intro x hx
      have := tw_mem x hx
      simp only [decide_eq_true_eq]
      intro e
      rw [e, geS_refl] at this
      cases this
    rw [h, List.append_assoc, List.append_assoc]
    exact List.Perm.append_left _ List.perm_append_comm
  · exact List.Perm.refl _
end
theorem cl_filter (L : List Ch) (k : List Int) : cl (L.filter (fun x => decide (x.k.xs ≠ k))) = cdel (cl L) k := by
  unfold cl cdel
  rw [List.filter_map]
  rfl
/-- The keys of a table of bytes, each once. -/
structure Kn (T : CT) : Prop where
  nd : (T.map Prod.fst).Nodup
  byt : ∀ e ∈ T, Byt e.1
theorem Kn.perm {T T' : CT} (h : Kn T) (hp : T.Perm T') : Kn T' := ⟨((hp.map Prod.fst).nodup_iff).1 h.nd, fun e he => h.byt e (hp.mem_iff.2 he)⟩
theorem Kn.del {T : CT} (h : Kn T) (k : List Int) : Kn (cdel T k) := ⟨(List.Sublist.map _ List.filter_sublist).nodup h.nd, fun e he => h.byt e (List.mem_filter.1 he).1⟩
theorem Kn.put {T : CT} (h : Kn T) {k v : List Int} (hk : Byt k) : Kn (cput T k v) := by
  refine ⟨?_, fun e he => ?_⟩
  · unfold cput
    rw [List.map_append, List.nodup_append]
    refine ⟨(h.del k).nd, by simp, fun x hx y hy e => ?_⟩
    simp at hy
    subst hy e
    simp [cdel] at hx
  · rcases List.mem_append.1 he with he | he
    · exact (h.del k).byt e he
    · rw [List.mem_singleton.1 he]
      exact hk
theorem Kn.doC {T : CT} (h : Kn T) {c : Ch} (hk : Byt c.k.xs) : Kn (doC T c) := by
  unfold Go.Proofs.Ytfhinmjpokollaa.doC
  split
  · exact h.del _
  · exact h.put hk
theorem nd_inj {T : CT} (h : (T.map Prod.fst).Nodup) {a b : List Int × List Int} (ha : a ∈ T) (hb : b ∈ T) (e : a.1 = b.1) : a = b := by
  induction T with
  | nil => cases ha
  | cons x T ih =>
    rw [List.map_cons, List.nodup_cons] at h
    rcases List.mem_cons.1 ha with h1 | ha <;> rcases List.mem_cons.1 hb with h2 | hb
    · rw [h1, h2]
    · exact absurd (List.mem_map.2 ⟨b, hb, by rw [← e, h1]⟩) h.1
    · exact absurd (List.mem_map.2 ⟨a, ha, by rw [e, h2]⟩) h.1
    · exact ih h.2 ha hb
/-- In order, and the same: equal. -/
theorem sct_unique {l T : CT} (hs : l.Pairwise (fun a b => lek a b = true)) (hp : l.Perm T) (hT : Kn T) : l = sct T := by
  refine List.Perm.eq_of_pairwise (le := fun a b => lek a b = true) (fun a b ha hb h1 h2 => ?_) hs (List.pairwise_mergeSort lek_trans lek_total T) (hp.trans (List.mergeSort_perm T _).symm)
  have ha : a ∈ T := hp.mem_iff.1 ha
  have hb : b ∈ T := (List.mergeSort_perm T _).mem_iff.1 hb
  refine nd_inj hT.nd ha hb (sb_inj (hT.byt a ha) (hT.byt b hb) ?_)
  simp only [lek, leB, decide_eq_true_eq] at h1 h2
  exact List.le_antisymm h1 h2
theorem sct_sorted (T : CT) : (sct T).Pairwise (fun a b => lek a b = true) := List.pairwise_mergeSort lek_trans lek_total T
theorem sct_perm (T : CT) : (sct T).Perm T := List.mergeSort_perm T _
theorem drop_ge {L : List Ch} {k : List Int} (hs : (cl L).Pairwise (fun a b => lek a b = true)) : ∀ x ∈ L.dropWhile (fun x => !geS x.k.xs k), geS x.k.xs k = true := by
  induction L with
  | nil => intro x hx; cases hx
  | cons y L ih =>
    intro x hx
    have hs' : (cl (y :: L)).Pairwise (fun a b => lek a b = true) := hs
    unfold cl at hs
    rw [List.map_cons, List.pairwise_cons] at hs
    by_cases hg : geS y.k.xs k = true
    · rw [List.dropWhile_cons_of_neg (by simp [hg])] at hx
      rcases List.mem_cons.1 hx with rfl | hx
      · exact hg
      · have h1 := hs.1 _ (List.mem_map.2 ⟨x, hx, rfl⟩)
        rw [geS_eq] at hg ⊢
        simp only [lek, leB, decide_eq_true_eq] at h1 hg ⊢
        exact List.le_trans hg h1
    · rw [List.dropWhile_cons_of_pos (by simpa using hg)] at hx
      exact ih hs.2 x hx
theorem rapp_sorted {L : List Ch} (c : Ch) (hs : (cl L).Pairwise (fun a b => lek a b = true)) : (cl (rapp geS c L)).Pairwise (fun a b => lek a b = true) := by
  rw [rapp_eq]
  have hsub : ∀ {M : List Ch}, M.Sublist L → (cl M).Pairwise (fun a b => lek a b = true) := fun h => hs.sublist (h.map _)
  cases c.d
  · rw [if_neg (by simp)]
    unfold cl
    rw [List.map_append, List.map_append, List.append_assoc, List.pairwise_append]
    refine ⟨hsub (List.takeWhile_sublist _), ?_, ?_⟩
    · rw [List.map_cons, List.map_nil, List.singleton_append, List.pairwise_cons]
      refine ⟨fun e he => ?_, hsub (List.filter_sublist.trans (List.dropWhile_sublist _))⟩
      obtain ⟨x, hx, rfl⟩ := List.mem_map.1 he
      have := drop_ge (k := c.k.xs) hs x (List.mem_filter.1 hx).1
      rw [geS_eq] at this
      exact this
    · intro a ha b hb
      obtain ⟨x, hx, rfl⟩ := List.mem_map.1 ha
      have h1 := tw_mem x hx
      rw [geS_eq] at h1
      simp only [leB, Bool.not_eq_true', decide_eq_false_iff_not] at h1
      have h1 := List.le_of_lt (List.not_le.1 h1)
      rcases List.mem_append.1 hb with hb | hb
      · rw [List.map_cons, List.map_nil, List.mem_singleton] at hb
        subst hb
        simp only [lek, leB, decide_eq_true_eq]
        exact h1
      · obtain ⟨y, hy, rfl⟩ := List.mem_map.1 hb
        have h2 := drop_ge (k := c.k.xs) hs y (List.mem_filter.1 hy).1
        rw [geS_eq] at h2
        simp only [lek, leB, decide_eq_true_eq] at h2 ⊢
        exact List.le_trans h1 h2
  · rw [if_pos rfl]
    exact hsub List.filter_sublist
theorem rapp_sct {L : List Ch} {T : CT} (c : Ch) (h : cl L = sct T) (hT : Kn T) (hk : Byt c.k.xs) : cl (rapp geS c L) = sct (doC T c) := by
  refine sct_unique (rapp_sorted c (by rw [h]; exact sct_sorted T)) ?_ (hT.doC hk)
  have hp : (cl (rapp geS c L)).Perm _ := (rapp_perm c L).map _
  refine hp.trans ?_
  unfold doC
  cases c.d
  · rw [if_neg (by simp), if_neg (by simp), List.map_append]
    unfold cput
    refine List.Perm.append_right _ ?_
    have : (cl (L.filter (fun x => decide (x.k.xs ≠ c.k.xs)))).Perm (cdel T c.k.xs) := by
      rw [cl_filter, h]
      exact (sct_perm T).filter _
    exact this
  · rw [if_pos rfl, if_pos rfl]
    have : (cl (L.filter (fun x => decide (x.k.xs ≠ c.k.xs)))).Perm (cdel T c.k.xs) := by
      rw [cl_filter, h]
      exact (sct_perm T).filter _
    exact this
theorem rdo_sct {L : List Ch} {T : CT} (C : List Ch) (h : cl L = sct T) (hT : Kn T) (hk : ∀ c ∈ C, Byt c.k.xs) : cl (rdo L C) = sct (doCs T C) ∧ Kn (doCs T C) := by
  induction C generalizing L T with
  | nil => exact ⟨h, hT⟩
  | cons c C ih =>
    have hc := hk c (List.mem_cons_self ..)
    exact ih (rapp_sct c h hT hc) (hT.doC hc) (fun x hx => hk x (List.mem_cons_of_mem _ hx))
theorem kn_cont {E : Tab} (h1 : (E.map Prod.fst).Nodup) (h2 : ∀ e ∈ E, Byt e.1) : Kn (cont E) := by
  refine ⟨?_, fun e he => ?_⟩
  · unfold cont
    rw [List.map_map]
    exact h1
  · obtain ⟨x, hx, rfl⟩ := List.mem_map.1 he
    exact h2 x hx
theorem cl_look (L : List Ch) (k : List Int) : (rfind L k).map Fm.xs = (cl L).lookup k := by
  unfold rfind cl
  induction L with
  | nil => rfl
  | cons c L ih =>
    rw [List.map_cons, List.lookup_cons]
    by_cases h : c.k.xs = k
    · rw [List.find?_cons_of_pos (by simpa using h)]
      have : (k == c.k.xs) = true := by simpa using h.symm
      rw [this]
      rfl
    · rw [List.find?_cons_of_neg (by simpa using h)]
      have : (k == c.k.xs) = false := by simpa using fun e => h e.symm
      rw [this]
      exact ih
theorem ct_mem_look {T : CT} (hn : (T.map Prod.fst).Nodup) {e : List Int × List Int} (h : e ∈ T) : T.lookup e.1 = some e.2 := by
  induction T with
  | nil => cases h
  | cons d T ih =>
    obtain ⟨x, u⟩ := d
    rw [List.map_cons, List.nodup_cons] at hn
    rcases List.mem_cons.1 h with rfl | h
    · simp
    · rw [List.lookup_cons]
      have : (e.1 == x) = false := by
        simp
        intro hx
        exact hn.1 (hx ▸ List.mem_map.2 ⟨e, h, rfl⟩)
      rw [this]
      exact ih hn.2 h
theorem ct_look_mem {T : CT} {k v : List Int} (h : T.lookup k = some v) : (k, v) ∈ T := by
  induction T with
  | nil => simp at h
  | cons e T ih =>
    obtain ⟨x, u⟩ := e
    rw [List.lookup_cons] at h
    by_cases hx : k = x
    · subst hx
      simp at h
      simp [h]
    · have : (k == x) = false := by simpa using hx
      rw [this] at h
      exact List.mem_cons_of_mem _ (ih h)
theorem look_perm {T T' : CT} (hp : T.Perm T') (hn : (T.map Prod.fst).Nodup) (k : List Int) : T.lookup k = T'.lookup k := by
  have hn' : (T'.map Prod.fst).Nodup := ((hp.map Prod.fst).nodup_iff).1 hn
  cases h : T.lookup k with
  | some v => exact (ct_mem_look hn' (hp.mem_iff.1 (ct_look_mem h))).symm
  | none =>
    cases h' : T'.lookup k with
    | none => rfl
    | some v =>
      have := ct_mem_look hn (hp.mem_iff.2 (ct_look_mem h'))
      rw [h] at this
      cases this
/-- What both find of a key. -/
theorem find_same {L : List Ch} {E : Tab} (h : cl L = sct (cont E)) (hT : Kn (cont E)) (k : List Int) : (rfind L k).map Fm.xs = (E.lookup k).map Fm.xs := by
  rw [cl_look, h, ← look_perm (sct_perm _).symm hT.nd k, lookup_cont]
theorem rsz_csize {L : List Ch} {T : CT} (h : cl L = sct T) (hl : ∀ c ∈ L, c.k.xs.length = c.k.n ∧ c.v.xs.length = c.v.n) : rsz L = csize T := by
  rw [← csize_perm (sct_perm T), ← h]
  unfold rsz csize cl
  rw [List.map_map]
  congr 1
  refine List.map_congr_left fun c hc => ?_
  have := hl c hc
  simp only [Function.comp]
  omega
end Go.Proofs.Ytfhinmjpokollaa
/- Arguments opened, with the row's own bound on what is read. No condition. -/
namespace Go.Proofs.Ytfhinmjpokollaa
set_option linter.unusedVariables false
set_option linter.unusedSimpArgs false
set_option linter.constructorNameAsVariable false
open Go.RowKit Go.ChangeShapes Go.WideShapes Go.Deep

/-- Each string, slice and map that this datum holds takes no more than the reach. -/
def Sz {H : Type} (P : Program) (t : TypeId) (d : DataW H) : Prop := (d.weights P t).all (· ≤ reachBytes) = true

section
variable {H : Type} {enc : TypeId × Value → H} {P : Program} {w : World}
theorem Sz.of {ts : List TypeId} {ds : List (DataW H)} (h : (DataW.weightsEach P ts ds).all (· ≤ reachBytes) = true) {j : Nat} {t : TypeId} {d : DataW H} (ht : ts[j]? = some t) (hd : ds[j]? = some d) : Sz P t d := by
  unfold Sz
  rw [List.all_eq_true] at h ⊢
  exact fun x hx => h x (DataW.weights_mem_each ht hd x hx)
theorem weights_mem_all {e : TypeId} : ∀ {ds : List (DataW H)} {d : DataW H}, d ∈ ds → ∀ n ∈ d.weights P e, n ∈ DataW.weightsAll P e ds
  | d0 :: ds, d, hd, n, hn => by
    rcases List.mem_cons.1 hd with rfl | hd
    · simp only [DataW.weightsAll, List.mem_append]; exact .inl hn
    · simp only [DataW.weightsAll, List.mem_append]; exact .inr (weights_mem_all hd n hn)
theorem Sz.slice {t e : TypeId} (ht : P.underlying t = some (.slice e)) {xs ys : List (DataW H)} (h : Sz P t (.slice xs ys)) : (xs.length + ys.length) * P.bytesOf e ≤ reachBytes ∧ ∀ d ∈ xs, Sz P e d := by
  unfold Sz at h
  simp only [DataW.weights, ht, List.all_cons, List.all_append, Bool.and_eq_true, decide_eq_true_eq] at h
  refine ⟨h.1, fun d hd => ?_⟩
  unfold Sz
  rw [List.all_eq_true]
  exact fun x hx => List.all_eq_true.1 h.2.1 x (weights_mem_all hd x hx)
theorem Sz.struct {t : TypeId} {fs : Array Field} (ht : P.underlying t = some (.struct fs)) {xs : List (DataW H)} (h : Sz P t (.agg xs)) {j : Nat} {f : Field} {d : DataW H} (hf : fs[j]? = some f) (hd : xs[j]? = some d) : Sz P f.type d := by
  unfold Sz at h
  simp only [DataW.weights, ht] at h
  exact Sz.of h (j := j) (by simp [hf]) hd
theorem Sz.array {t e : TypeId} {n : Nat} (ht : P.underlying t = some (.array n e)) {xs : List (DataW H)} (h : Sz P t (.agg xs)) : ∀ d ∈ xs, Sz P e d := by
  intro d hd
  unfold Sz at h ⊢
  simp only [DataW.weights, ht] at h
  rw [List.all_eq_true] at h ⊢
  exact fun x hx => h x (weights_mem_all hd x hx)

/-- A slice of elements of k cells, each opened; it takes no more than the reach. -/
theorem trod_slk {t e : TypeId} (ht : P.underlying t = some (.slice e)) {α : Type} (f : α → List Value) (k : Nat) (hk : P.cellsOf e = k) (hpos : 0 < k) (Good : α → Prop)
    (hel : ∀ (cs : List Value) (m : Nat) (y : DataW H × List MemPlace), cs.length = k → DataW.trod enc P w 0 (fun _ => true) true m e cs = some y → Sz P e y.1 → ∃ x : α, f x = cs ∧ Good x)
    {fuel : Nat} {v : Value} {y : DataW H × List MemPlace} (h : DataW.trod enc P w 0 (fun _ => true) true fuel t [v] = some y) (hs : Sz P t y.1) :
    ∃ (A : Option Addr) (n c : Nat) (L : List α), v = .slice A n c ∧ n ≤ c ∧ c ≤ maxLen ∧ c * P.bytesOf e ≤ reachBytes ∧ L.length = n ∧ Rd (fun b => b < w.heap.size) w k A n (L.flatMap f) ∧ (∀ x ∈ L, Good x) ∧ (∀ x ∈ L, (f x).length = k) := by
  rcases open_slice ht h with ⟨hcs, _⟩ | ⟨a, len, cap, m, n, D, Pl, hcs, _, hl, hm, hmm, rfl, hi⟩
  · simp at hcs
    subst hcs
    exact ⟨none, 0, 0, [], rfl, Nat.le_refl _, Nat.zero_le _, by simp, rfl, Rd.nil, by simp, by simp⟩
  · simp at hcs
    subst hcs
    simp at hmm
    subst hmm
    obtain ⟨hs1, hs2⟩ := hs.slice ht
    simp only [List.length_map, List.length_range] at hs1
    have key : ∀ i, i < len → ∃ x : α, Good x ∧ (f x).length = k ∧ ∀ j, j < k → w.cell? (a.add (i * k + j)) = (f x)[j]? := by
      intro i hin
      obtain ⟨cs', hc, htr⟩ := hi i (by omega)
      rw [hk] at hc
      obtain ⟨_, hcl, hat⟩ := World.cells?_some hc
      obtain ⟨x, hx, hg⟩ := hel cs' n (D i, Pl i) hcl htr (hs2 _ (List.mem_map_of_mem (List.mem_range.2 hin)))
      refine ⟨x, hg, by rw [hx]; exact hcl, fun j hj => ?_⟩
      rw [hx, ← hat j hj, add_add']
    obtain ⟨L, hL, hQ⟩ := list_of len key
    have hlen : ∀ x ∈ L, (f x).length = k := fun x hx => by obtain ⟨i, hi, rfl⟩ := List.getElem_of_mem hx; exact (hQ i hi).2.1
    refine ⟨some a, len, _, L, rfl, hl, hm, by rw [Nat.add_sub_cancel' hl] at hs1; exact hs1, hL, ⟨by rw [fm_len f k L hlen, hL], fun hn => ⟨a, rfl, ?_, ?_, ?_⟩⟩, fun x hx => by obtain ⟨i, hi, rfl⟩ := List.getElem_of_mem hx; exact (hQ i hi).1, hlen⟩
    · have h0 := (hQ 0 (by omega)).2.2 0 hpos
      have hs : (f (L[0]'(by omega)))[0]? = some ((f (L[0]'(by omega)))[0]'(by rw [hlen _ (List.getElem_mem _)]; exact hpos)) := List.getElem?_eq_getElem _
      rw [hs] at h0
      have := World.block_lt_of_cell? w _ h0
      rwa [add_block] at this
    · have h0 := (hQ 0 (by omega)).2.2 0 hpos
      have hs : (f (L[0]'(by omega)))[0]? = some ((f (L[0]'(by omega)))[0]'(by rw [hlen _ (List.getElem_mem _)]; exact hpos)) := List.getElem?_eq_getElem _
      rw [hs] at h0
      have := World.block_lt_of_cell? w _ h0
      rwa [add_block] at this
    · intro q u hu
      obtain ⟨i, j, hil, hj, rfl, hu'⟩ := fm_out f k hpos L hlen q u hu
      rw [(hQ i hil).2.2 j hj, hu']

/-- A field of one cell, out of a struct's reading, sized. -/
theorem field_s {ts : TypeId} {fs : Array Field} (hs : P.underlying ts = some (.struct fs)) {m : Nat} {cs : List Value} {y : DataW H × List MemPlace} (h : DataW.trod enc P w 0 (fun _ => true) true m ts cs = some y) (hz : Sz P ts y.1) {j : Nat} {fd : Field} (hf : fs[j]? = some fd) (hc : P.cellsOf fd.type = 1) (hlt : fd.offset < cs.length) :
    ∃ n z, DataW.trod enc P w 0 (fun _ => true) true n fd.type [cs[fd.offset]] = some z ∧ Sz P fd.type z.1 := by
  obtain ⟨xs, n, _, rfl, _, hlen, hg⟩ := DataW.trod_struct hs h
  have := hg j fd hf
  rw [hc, List.drop_eq_getElem_cons hlt] at this
  have hj : j < xs.length := by rw [hlen]; exact (Array.getElem?_eq_some_iff.1 hf).1
  rw [List.getElem?_eq_getElem hj] at this
  exact ⟨n, _, this, hz.struct hs hf (by simp [hj])⟩

/-- A slice of integers of a kind, with their bounds. -/
theorem trod_ints {t e : TypeId} {k : IntKind} (ht : P.underlying t = some (.slice e)) (he : P.underlying e = some (.int k)) (hc : P.cellsOf e = 1)
    {fuel : Nat} {v : Value} {y : DataW H × List MemPlace} (h : DataW.trod enc P w 0 (fun _ => true) true fuel t [v] = some y) (hs : Sz P t y.1) :
    ∃ (A : Option Addr) (n c : Nat) (xs : List Int), v = .slice A n c ∧ n ≤ c ∧ c ≤ maxLen ∧ c * P.bytesOf e ≤ reachBytes ∧ xs.length = n ∧ Rd (fun b => b < w.heap.size) w 1 A n (xs.map (Value.int k)) ∧ ∀ x ∈ xs, (Lit.int k x).wf = true := by
  obtain ⟨A, n, c, L, h1, h2, h3, h4, h5, h6, h7, -⟩ := trod_slk (k := 1) ht (fun x : Int => [Value.int k x]) hc (by omega) (fun x => (Lit.int k x).wf = true) (fun cs m y hl ht' _ => by
    obtain ⟨a, rfl, _, g⟩ := DataW.trod_int he ht'
    exact ⟨a, rfl, g⟩) h hs
  refine ⟨A, n, c, L, h1, h2, h3, h4, h5, ?_, h7⟩
  rwa [show L.flatMap (fun x => [Value.int k x]) = L.map (Value.int k) from List.map_eq_flatMap.symm] at h6
end
end Go.Proofs.Ytfhinmjpokollaa
/- Arrays and structs that come by value, opened. No condition. -/
namespace Go.Proofs.Ytfhinmjpokollaa
set_option linter.unusedVariables false
set_option linter.unusedSimpArgs false
set_option linter.constructorNameAsVariable false
open Go.RowKit Go.WideShapes Go.ChangeShapes

section
variable {P : Program} {H : Type} {enc : TypeId × Value → H} {w : World}
theorem okWide_array {r : Reach} {b0 : Nat} {t e : TypeId} {n : Nat} {v : Value} (ht : P.underlying t = some (.array n e)) (h : Value.okWide P w r b0 t v) : ∃ cs : Array Value, v = .agg cs ∧ cs.size = P.cellsOf t := by
  unfold Value.okWide at h
  rw [ht] at h
  obtain ⟨cs, h1, h2, _⟩ := h
  exact ⟨cs, h1, h2⟩
/-- An array of one-cell elements: its cells, each as it reads. -/
theorem open_array {r : Reach} {b0 : Nat} {t e : TypeId} {n : Nat} {v : Value} {d : DataW H} {p : List MemPlace} (ht : P.underlying t = some (.array n e)) (hc : P.cellsOf t = n) (he : P.cellsOf e = 1)
    (hv : Value.okWide P w r b0 t v) (h : DataW.Trod enc P w 0 (fun _ => true) true t v d p) :
    ∃ cs : List Value, v = .agg cs.toArray ∧ cs.length = n ∧ ∀ (i : Nat) (hi : i < cs.length), ∃ m y, DataW.trod enc P w 0 (fun _ => true) true m e [cs[i]] = some y := by
  obtain ⟨a, rfl, hsz⟩ := okWide_array ht hv
  obtain ⟨fuel, hf⟩ := h
  obtain ⟨xs, m, _, _, _, hl, hg⟩ := DataW.trod_array ht hf
  refine ⟨a.toList, by simp, by simp [hsz, hc], fun i hi => ?_⟩
  have hi' : i < n := by simp at hi; omega
  have := hg i hi'
  rw [he, Nat.mul_one] at this
  have hx : i < xs.length := by omega
  rw [List.getElem?_eq_getElem hx, show (Value.agg a).cells.toList = a.toList from rfl, List.drop_eq_getElem_cons hi] at this
  exact ⟨m, _, this⟩
end
end Go.Proofs.Ytfhinmjpokollaa
