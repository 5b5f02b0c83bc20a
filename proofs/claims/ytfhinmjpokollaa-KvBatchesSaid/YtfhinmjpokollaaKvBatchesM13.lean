/- Texts of one proof, one behind the other: KvX, KvBe. No condition but each one's own. -/
import Derived.Test.YtfhinmjpokollaaKvBatchesM9
import Derived.Test.YtfhinmjpokollaaKvBatchesM12
/- KvBack, as its statement's row wants it. No condition but the bound on what is read. -/
namespace Go.Proofs.Ytfhinmjpokollaa
set_option linter.unusedVariables false
set_option linter.unusedSimpArgs false
set_option linter.constructorNameAsVariable false
open Go.RowKit Go.Maps Go.Sort
attribute [local go_sem] Oper.semAt_some

theorem chB_byt {P : Nat → Prop} {w : World} {c : Ch} (h : c.In P w) : Byt (chB c) := by
  intro x hx
  unfold chB at hx
  rcases List.mem_append.1 hx with hx | hx
  · rcases List.mem_append.1 hx with hx | hx
    · rcases List.mem_append.1 hx with hx | hx
      · rw [List.mem_singleton.1 hx]
        cases c.d <;> decide
      · exact beL_byt _ _ x hx
    · exact h.k.byt x hx
  · cases hd : c.d
    · rw [hd, if_neg (by decide)] at hx
      rcases List.mem_append.1 hx with hx | hx
      · exact beL_byt _ _ x hx
      · exact h.v.byt x hx
    · rw [hd, if_pos rfl] at hx
      cases hx
theorem long_g {w : World} {x : Sl} (h : x.Good w) : Calls Try.prog 10 #[.slice x.A x.n x.c] w fun e w' => LongSays x.L e ∧ New w w' :=
  long_any x.A x.n x.c x.L w h.tb h.nn (fun c hc => ⟨(h.gd c hc).kn, (h.gd c hc).vn⟩)
theorem sizes_g {w : World} {x : Sl} (h : x.Good w) (hb : x.L.length ≤ 700 ∧ chSum x.L ≤ 20000) : x.n ≤ 700 ∧ ∀ c ∈ x.L, c.k.n ≤ maxLen ∧ c.v.n ≤ maxLen :=
  ⟨by rw [← h.tb.len]; exact hb.1, fun c hc => by have := chSum_mem hc; unfold maxLen; omega⟩
set_option maxHeartbeats 16000000 in
set_option maxRecDepth 100000 in
theorem back_walk {w : World} (x y : Sl) (hx : x.Good w) (hy : y.Good w) :
    Calls Try.prog 7 #[.slice x.A x.n x.c, .slice y.A y.n y.c] w fun e w' => e = .returned (.bool true) ∧ Below w.heap.size w w' := by
  obtain ⟨xA, xn, xc, xL⟩ := x
  obtain ⟨yA, yn, yc, yL⟩ := y
  have HX := Lib.hid hx
  have HY := Lib.hid hy
  have hxn := hx.nn
  unfold maxLen at hxn
  dsimp only at hxn ⊢
  clear hx hy
  refine (callsIn_wide (n := 3)).1 ?_
  refine callsIn_of_wp_marks Try.func7 rfl trivial ?_ rfl
  refine wpIn_wide.2 ?_
  simp only [Try.ntmps7, List.size_toArray, List.length_cons, List.length_nil, Nat.reduceAdd, Nat.reduceSub, Array.replicate_succ, Array.replicate_zero, List.push_toArray, List.append_toArray, List.nil_append, List.cons_append]
  go_wp2_with fail
  refine (alive_any w).mono ?_
  rintro e w1 ⟨rfl, hN1⟩
  have HN1 := Lib.hid hN1
  clear hN1
  go_wp2_with fail
  refine (long_g (x := ⟨xA, xn, xc, xL⟩) (HX.out.new HN1.out)).mono ?_
  rintro e w2 ⟨⟨bl, rfl, hbl⟩, hN2⟩
  have HN2 : Hid (New w w2) := Lib.hid (HN1.out.tr hN2)
  have HBL := Lib.hid hbl
  clear hN2 hbl HN1
  cases bl
  rotate_left
  · go_wp2_with fail
    refine leaves_marks [] _ (Marks.nil w2.heap.size _) (fun W' hS => ⟨.bool true, by simp [results, Try.results7, go_sem], rfl, HN2.out.trans (hS.below.mono HN2.out.size)⟩)
  go_wp2_with fail
  refine (long_g (x := ⟨yA, yn, yc, yL⟩) (HY.out.new HN2.out)).mono ?_
  rintro e w3 ⟨⟨bl, rfl, hbl⟩, hN3⟩
  have HN3 : Hid (New w w3) := Lib.hid (HN2.out.tr hN3)
  have HBM := Lib.hid hbl
  clear hN3 hbl HN2
  cases bl
  rotate_left
  · go_wp2_with fail
    refine leaves_marks [] _ (Marks.nil w3.heap.size _) (fun W' hS => ⟨.bool true, by simp [results, Try.results7, go_sem], rfl, HN3.out.trans (hS.below.mono HN3.out.size)⟩)
  have hsx := sizes_g HX.out (HBL.out trivial)
  have hsy := sizes_g HY.out (HBM.out rfl)
  have hx7 : xn ≤ 700 := hsx.1
  have hy7 : yn ≤ 700 := hsy.1
  have HSX : Hid (∀ c ∈ xL, c.k.n ≤ maxLen ∧ c.v.n ≤ maxLen) := Lib.hid hsx.2
  have HSY : Hid (∀ c ∈ yL, c.k.n ≤ maxLen ∧ c.v.n ≤ maxLen) := Lib.hid hsy.2
  have HXL : Hid (xL.length = xn) := Lib.hid HX.out.tb.len
  have HYL : Hid (yL.length = yn) := Lib.hid HY.out.tb.len
  clear hsx hsy HBL HBM
  by_cases hok : chsOk xL = true
  rotate_left
  · have hok : chsOk xL = false := by simpa using hok
    have HP := Lib.hid (put_bad xA xn xc xL w3 (HX.out.tb.new HN3.out) (by omega) HSX.out hok)
    clear hok
    go_wp2_with fail
    refine HP.out.mono ?_
    rintro e w4 ⟨rfl, hN4⟩
    have HN4 : Hid (New w w4) := Lib.hid (HN3.out.tr hN4)
    clear hN4 HP
    go_wp2_with fail
    refine leaves_marks [] _ (Marks.nil w4.heap.size _) (fun W' hS => ⟨.bool true, by simp [results, Try.results7, go_sem], rfl, HN4.out.trans (hS.below.mono HN4.out.size)⟩)
  have HOK := Lib.hid hok
  have hpl : (putB xL).length ≤ 100000000 := by
    have hsp := chsOk_spec hok
    unfold putB
    rw [List.length_append, beL_len]
    have := flat_len (L := xL) (fun c hc => by
      have h1 := chB_len (HX.out.tb.el c hc).k.len (HX.out.tb.el c hc).v.len
      have := hsp.2.2 c hc
      omega) xL.length (Nat.le_refl _)
    rw [List.take_length] at this
    omega
  have hpb : Byt (putB xL) := by
    intro b hb
    unfold putB at hb
    rcases List.mem_append.1 hb with hb | hb
    · exact beL_byt _ _ b hb
    · obtain ⟨c, hc, hbc⟩ := List.mem_flatMap.1 hb
      exact chB_byt (HX.out.tb.el c hc) b hbc
  obtain ⟨pb, hpbe⟩ : ∃ pb, pb = putB xL := ⟨_, rfl⟩
  have HPB := Lib.hid hpb
  have HP := Lib.hid (put_any xA xn xc xL w3 (HX.out.tb.new HN3.out) hok)
  rw [← hpbe] at HPB HP hpl
  have HPE := Lib.hid hpbe
  obtain ⟨pl, hple⟩ : ∃ pl, pl = pb.length := ⟨_, rfl⟩
  rw [← hple] at HP hpl
  clear hok hpb hpbe hple
  go_wp2_with fail
  refine HP.out.mono ?_
  rintro e w4 ⟨⟨pA, pc, base, rfl, hbase, hO4⟩, hN4⟩
  have HN4 : Hid (New w w4) := Lib.hid (HN3.out.tr hN4)
  have HO4 := Lib.hid hO4
  clear hN4 hO4 HP hbase
  have HPS := Lib.hid (parse_any pA pl pc pb w4 (Rd.own HO4.out rfl) HPB.out (by omega))
  go_wp2_with fail
  refine HPS.out.mono ?_
  rintro e w5 ⟨hps, hN5⟩
  have hpp : parseB pb = some (xL.map pcOf) := by
    rw [HPE.out]
    exact parse_put HX.out.tb.lens HOK.out
  rw [hpp] at hps
  rcases hps with ⟨h, _⟩ | ⟨zA, zn, zc, zL, hz, rfl, hZ⟩
  · cases h
  injection hz with hz
  have HZE : Hid (xL.map pcOf = zL.map pcOf) := Lib.hid hz
  have hzn : zn = xn := by
    have := congrArg List.length hz
    rw [List.length_map, List.length_map, HXL.out, hZ.len] at this
    exact this.symm
  subst hzn
  have HZ := Lib.hid hZ
  have HZ0 : Hid (chsOk zL = true) := Lib.hid (by rw [← pcsOk_len hZ.lens, ← hz, pcsOk_len HX.out.tb.lens]; exact HOK.out)
  have HN5 : Hid (New w w5) := Lib.hid (HN4.out.tr hN5)
  have HO5 : Hid (w5.ownsRow base 5 1 (.slice pA pl pc) pl (u8s pb)) := Lib.hid (hN5.own HO4.out)
  have HPZ : Hid (putB zL = pb) := Lib.hid (by rw [HPE.out]; exact (putB_pc HX.out.tb.lens hZ.lens hz).symm)
  clear hpp hz hZ hN5 HPS HO4
  have HP2 := Lib.hid (put_any zA zn zc zL w5 HZ.out HZ0.out)
  rw [HPZ.out] at HP2
  have hpl2 : pb.length = pl := by have := HO5.out.1; rw [u8s_len] at this; omega
  rw [hpl2] at HP2
  clear hpl2
  go_wp2_with fail
  refine HP2.out.mono ?_
  rintro e w6 ⟨⟨qA, qc, base2, rfl, hbase2, hO6⟩, hN6⟩
  have HN6 : Hid (New w w6) := Lib.hid (HN5.out.tr hN6)
  have HZ6 := Lib.hid (HZ.out.new hN6)
  have hbt := bytes_any pA qA pl pl pc qc pb pb w6 (Rd.own (hN6.own HO5.out) rfl) (Rd.own hO6 rfl) HPB.out HPB.out
  have hts : decide (pb = pb) = true := by simp
  rw [hts] at hbt
  have HBT := Lib.hid hbt
  clear hbt hts hN6 hO6 HP2 HZ HO5 HN5 hbase2
  go_wp2_with fail
  refine HBT.out.mono ?_
  rintro e w6' ⟨rfl, rfl⟩
  clear HBT
  go_wp2_with fail
  refine (new_any w.heap.size w6 HN6.out.size).mono ?_
  rintro e w7 ⟨g1, b1, rfl, hT7, hN7, hg1, hb1⟩
  have HN7 : Hid (New w w7) := Lib.hid (HN6.out.tr hN7)
  have HT7 := Lib.hid hT7
  have HZ7 := Lib.hid (HZ6.out.new hN7)
  have HB1 : Hid (w6.heap.size ≤ g1 ∧ w6.heap.size ≤ b1) := Lib.hid ⟨hg1, hb1⟩
  clear hT7 hN7 hg1 hb1 HZ6
  go_wp2_with fail
  refine (new_any w.heap.size w7 HN7.out.size).mono ?_
  rintro e w8 ⟨g2, b2, rfl, hT8, hN8, hg2, hb2⟩
  have HN8 : Hid (New w w8) := Lib.hid (HN7.out.tr hN8)
  have HT8 : Hid (TbIn (fun _ => False) w8 w.heap.size g1 b1 0 []) := Lib.hid (HT7.out.new hN8)
  have HU8 := Lib.hid hT8
  have HZ8 := Lib.hid (HZ7.out.new hN8)
  have HB2 : Hid (w7.heap.size ≤ g2 ∧ w7.heap.size ≤ b2 ∧ g1 < w7.heap.size ∧ b1 < w7.heap.size) := Lib.hid ⟨hg2, hb2, HT7.out.blk.lt, HT7.out.blt⟩
  clear hT8 hN8 hg2 hb2 HZ7 HT7
  go_wp2_with fail
  refine (apply_any (P := fun k => k < w.heap.size) HT8.out xA zn xc xL (HN8.out.rd HX.out.tb.rd) HXL.out (fun c hc => (HX.out.tb.el c hc).new HN8.out) (fun k hk => by have := HB1.out; have := HN6.out.size; omega) HOK.out (by omega)).mono ?_
  rintro e w9 ⟨rfl, X9, E9, hT9, hc9, hF9, hX9⟩
  have HT9 := Lib.hid hT9
  have HC9 := Lib.hid hc9
  have HU9 : Hid (TbIn (fun _ => False) w9 w.heap.size g2 b2 0 []) := Lib.hid (HU8.out.fr hF9 (by have := HB2.out; omega) (by have := HB2.out; omega) (fun k _ h => h))
  have HZ9 : Hid (RTb w9 zA zn zL) := Lib.hid (by
    obtain ⟨f, hM⟩ := HT8.out.mapAt
    exact HZ8.out.frb hM hF9)
  have HN9 : Hid (New w w9) := Lib.hid (HN8.out.fr hF9 (fun k hk => by have := HB1.out; have := HN6.out.size; omega))
  clear hT9 hc9 hF9 hX9 HT8 HU8 HZ8
  go_wp2_with fail
  have HZN : Hid (Rd (fun k => k < w9.heap.size ∧ k ≠ b2) w9 3 zA zn (zL.flatMap Ch.cells) ∧ ∀ c ∈ zL, c.In (fun k => k < w9.heap.size ∧ k ≠ b2) w9) := Lib.hid (by
    obtain ⟨f, hM⟩ := HU9.out.mapAt
    exact ⟨rd_not_map HZ9.out.rd hM (by decide), fun c hc => ⟨⟨rd_not_map (HZ9.out.el c hc).k.rd hM (by decide), (HZ9.out.el c hc).k.byt⟩, ⟨rd_not_map (HZ9.out.el c hc).v.rd hM (by decide), (HZ9.out.el c hc).v.byt⟩⟩⟩)
  refine (apply_any HU9.out zA zn zc zL HZN.out.1 HZ9.out.len HZN.out.2 (fun k hk => hk.2) HZ0.out (by omega)).mono ?_
  rintro e wa ⟨rfl, Xa, Ea, hTa, hca, hFa, hXa⟩
  have HUa := Lib.hid hTa
  have HCC : Hid (cont E9 = cont Ea) := Lib.hid (by rw [HC9.out, hca]; exact doCs_pc HZE.out)
  have HTa : Hid (TbIn X9 wa w.heap.size g1 b1 (0 + zn) E9) := Lib.hid (HT9.out.fr hFa (by have := HB2.out; omega) (by have := HB2.out; omega) (fun k hk hx => by
    subst hk
    obtain ⟨f, hM⟩ := HU9.out.mapAt
    exact IsT.not_map hM (HT9.out.xs _ hx).2))
  have HNa : Hid (New w wa) := Lib.hid (HN9.out.fr hFa (fun k hk => by have := HB2.out; have := HN7.out.size; omega))
  have HEL : Hid (E9.length ≤ 700) := Lib.hid (by
    have h1 := congrArg List.length HC9.out
    have h2 := doCs_le (cont []) xL
    rw [cont_len] at h1 h2
    rw [HXL.out] at h2
    simp at h2
    omega)
  clear hTa hca hFa hXa HZN HU9 HZ9 HT9 HC9
  go_wp2_with fail
  refine (same_live HTa.out HUa.out (by omega) (by omega) (by have := HEL.out; omega) (by rw [HCC.out])).mono ?_
  rintro e wb ⟨rfl, hNb⟩
  have HTb := Lib.hid (HTa.out.new hNb)
  have HUb := Lib.hid (HUa.out.new hNb)
  have HNb : Hid (New w wb) := Lib.hid (HNa.out.tr hNb)
  clear hNb HTa HUa
  go_wp2_with fail
  refine (copy_any HTb.out HNb.out.size).mono ?_
  rintro e wc ⟨g3, b3, rfl, hTc, hNc, hg3, hb3⟩
  have HTc := Lib.hid (HTb.out.new hNc)
  have HUc := Lib.hid (HUb.out.new hNc)
  have HVc := Lib.hid hTc
  have HNc : Hid (New w wc) := Lib.hid (HNb.out.tr hNc)
  have HB3 : Hid (wb.heap.size ≤ b3 ∧ g1 < wb.heap.size ∧ b1 < wb.heap.size ∧ g2 < wb.heap.size ∧ b2 < wb.heap.size) := Lib.hid ⟨hb3, HTb.out.blk.lt, HTb.out.blt, HUb.out.blk.lt, HUb.out.blt⟩
  clear hTc hNc hg3 hb3 HTb HUb
  -- the copy turns, whatever comes
  have HAP : Hid (Calls Try.prog 12 #[.pointer (some ⟨g3, 0, none⟩), .slice yA yn yc] wc fun e w' => (∃ v, e = .returned v) ∧ Fr (fun k => k = b3) wc w') := Lib.hid (by
    by_cases hoy : chsOk yL = true
    · refine (apply_any (P := fun k => k < w.heap.size) HVc.out yA yn yc yL (HNc.out.rd HY.out.tb.rd) HYL.out (fun c hc => (HY.out.tb.el c hc).new HNc.out) (fun k hk => by have := HB3.out; have := HNb.out.size; omega) hoy (by omega)).mono ?_
      rintro e w' ⟨rfl, X', E', _, _, hF, _⟩
      exact ⟨⟨_, rfl⟩, hF⟩
    · refine (apply_bad g3 yA yn yc yL wc (HNc.out.rd HY.out.tb.rd) HYL.out (by omega) HSY.out (by simpa using hoy)).mono ?_
      rintro e w' ⟨rfl, hN⟩
      exact ⟨⟨_, rfl⟩, hN.toFr _⟩)
  go_wp2_with fail
  refine HAP.out.mono ?_
  rintro e wd ⟨⟨v, rfl⟩, hFd⟩
  have hnm : ∀ (X : Nat → Prop) (g b m : Nat) (E : Tab), TbIn X wc w.heap.size g b m E → g < wb.heap.size → b < wb.heap.size → TbIn X wd w.heap.size g b m E := fun X g b m E h hg hb =>
    h.fr hFd (by have := HB3.out; omega) (by have := HB3.out; omega) (fun k hk hx => by
      subst hk
      obtain ⟨f, hM⟩ := HVc.out.mapAt
      exact IsT.not_map hM (h.xs _ hx).2)
  have HTd := Lib.hid (hnm _ _ _ _ _ HTc.out HB3.out.2.1 HB3.out.2.2.1)
  have HUd := Lib.hid (hnm _ _ _ _ _ HUc.out HB3.out.2.2.2.1 HB3.out.2.2.2.2)
  have HNd : Hid (New w wd) := Lib.hid (HNc.out.fr hFd (fun k hk => by have := HB3.out; have := HNb.out.size; omega))
  clear hFd hnm HAP HTc HUc HVc HB3
  go_wp2_with fail
  refine (all_any (some ⟨g1, 0, none⟩) wd).mono ?_
  rintro e we ⟨rfl, hwe⟩
  have HNde : Hid (New wd we) := Lib.hid (by rw [hwe]; exact New.al (New.refl _) _)
  have HS := Lib.hid (all1_live (HTd.out.new HNde.out) (by omega) (by have := HEL.out; omega) (fun _ => False) wd.heap.size (by rw [hwe]; exact Blk.new wd _ _) (fun j hj => hj.elim))
  have HNe : Hid (New w we) := Lib.hid (HNd.out.tr HNde.out)
  have HTe := Lib.hid (HTd.out.new HNde.out)
  have HUe := Lib.hid (HUd.out.new HNde.out)
  clear hwe HTd HUd HNde
  go_wp2_with fail
  refine wp_rangeR rfl (enters_of Try.func44 (by kernel_rfl) rfl) (fun x : List Int × Fm => #[.string (strOfNums x.1), x.2.val]) (fun _ => rfl) HS.out (fun x W W' hg hp => hg.puts hp) (fun h k => h.tr k) (fun W W' hp => Kk.puts hp)
    (fun _ W => New we W) (fun _ _ _ h hN => h.tr hN) (fun _ _ _ h hp => h.puts hp (Nat.le_refl _)) (New.refl _) ?a1 ?assign ?body ?done
  case assign =>
    intro l x W K hK
    gi_wp2
    exact hK
  case body =>
    rintro l pre x W hpl hN hG -
    have HG := Lib.hid hG.1
    have HNW := Lib.hid hN
    have hxn2 : x.2.n ≤ 16384 := hG.2.2.1
    clear hG hN hpl
    obtain ⟨xk, vA, vn, vc, vs⟩ := x
    simp only [Fm.val] at HG ⊢
    dsimp only at HG hxn2
    gi_wp2
    gi_loopw [92] (fun i wr => ∃ (j : Nat) (ys : List Int), j ≤ vn ∧ i = .int .i64 j ∧ Hid (wr.ownsRow we.heap.size 5 1 (.slice vA vn vc) vn (ys.map (Value.int .u8))) ∧ Hid (Fr (fun k => (Value.slice vA vn vc).ownBlock = some k) W wr)) (fun i _ => vn - (intOf i).toNat)
    case atStart => exact ⟨0, vs, Nat.zero_le _, rfl, HG, Lib.hid (Fr.refl _ _)⟩
    case round =>
      obtain ⟨j, ys, hj, rfl, HO, HFr⟩ := hrel
      by_cases hjl : j < vn
      · obtain ⟨gV, cV, he, -, -⟩ := own_form HO.out (by omega)
        injection he with he1 he2 he3
        subst he1 he3
        have hyl : ys.length = vn := by have := HO.out.1; rw [List.length_map] at this; omega
        have hjy : j < ys.length := by omega
        have cj : wr.cell? ⟨gV, j, none⟩ = some (.int .u8 ys[j]) := by
          rw [HO.out.cellAt j (by omega), List.getElem?_map, List.getElem?_eq_getElem hjy]
          rfl
        have fj : wr.frozen? ⟨gV, j, none⟩ = false := HO.out.frozenAt j
        have hst := HO.out.stored j
        generalize ys[j] = yj at cj
        have HST := Lib.hid hst
        have hj0 : (0 : Int) ≤ (j : Int) := by omega
        have hjn : (j : Int) < (vn : Int) := by omega
        have HYL := Lib.hid hyl
        clear hst hyl hjy
        gi_wp2
        refine ⟨⟨j + 1, ys.set j (bits BinOp.xor .u8 yj 1), by omega, by go_num, Lib.hid ?_, Lib.hid ?_⟩, by simp [intOf]; omega⟩
        · have := (HST.out (.int .u8 (bits BinOp.xor .u8 yj 1))).1
          rwa [← List.map_set] at this
        · exact HFr.out.setCell (p := ⟨gV, j, none⟩) (fun _ => rfl) _
      · obtain rfl : j = vn := by omega
        gi_wp2
        have hot : ∀ k, (Value.slice vA j vc).ownBlock = some k → IsT 5 W k ∧ we.heap.size ≤ k := fun k hk => ⟨own_isT' HG.out hk, (own_lt HG.out k hk).1⟩
        refine ⟨Kept.fr HFr.out (fun k o hB hs ho => ?_), HFr.out.mono (fun k _ hk => .inr ⟨(hot k hk).2, IsT.not_own HG.out (by decide) hk⟩), HNW.out.fr HFr.out (fun k hk => (hot k hk).2)⟩
        obtain ⟨cs, fz, hx⟩ := (hot k hs).1
        rw [hx] at ho
        injection ho with ho
        rw [← ho]
        rfl
  case done =>
    rintro D fs W hD hfs hNW hDm
    have HDM := Lib.hid hDm
    have HNW := Lib.hid hNW
    have HSM := Lib.hid (same_live (HTe.out.new hNW) (HUe.out.new hNW) (by omega) (by omega) (by have := HEL.out; omega) (by rw [HCC.out]))
    clear hNW hDm hfs
    dsimp only
    go_wp2_with fail
    refine HSM.out.mono ?_
    rintro e W2 ⟨rfl, hN2⟩
    have HN2 : Hid (New w W2) := Lib.hid (HNe.out.tr (HNW.out.tr hN2))
    have HM2 := Lib.hid ((Marks.cons (Marks.nil we.heap.size W) (fun _ h => by cases h) hD HDM.out).new hN2)
    clear hN2 HSM
    go_wp2_with fail
    refine leaves_marks [D] W2 HM2.out (fun W' hS => ⟨.bool true, by simp [results, Try.results7, go_sem], rfl, HN2.out.trans (hS.below.mono HNe.out.size)⟩)
theorem back_law {v1 v2 : Value} {w : World} (h1 : ∃ x : Sl, v1 = .slice x.A x.n x.c ∧ x.Good w) (h2 : ∃ x : Sl, v2 = .slice x.A x.n x.c ∧ x.Good w) :
    Calls Try.prog 7 #[v1, v2] w fun e w' => e = .returned (.bool true) ∧ Below w.heap.size w w' := by
  obtain ⟨x, rfl, hx⟩ := h1
  obtain ⟨y, rfl, hy⟩ := h2
  exact back_walk x y hx hy
end Go.Proofs.Ytfhinmjpokollaa
/- KvBatches, as its statement's row wants it. No condition but the bound on what is read. -/
namespace Go.Proofs.Ytfhinmjpokollaa
set_option linter.unusedVariables false
set_option linter.unusedSimpArgs false
set_option linter.constructorNameAsVariable false
open Go.RowKit Go.Maps Go.Sort

theorem putB_byt {w : World} {A : Option Addr} {n : Nat} {L : List Ch} (h : RTb w A n L) : Byt (putB L) := by
  intro b hb
  unfold putB at hb
  rcases List.mem_append.1 hb with hb | hb
  · exact beL_byt _ _ b hb
  · obtain ⟨c, hc, hbc⟩ := List.mem_flatMap.1 hb
    exact chB_byt (h.el c hc) b hbc
set_option maxHeartbeats 8000000 in
set_option maxRecDepth 100000 in
theorem batches_walk {w : World} (x : Sl) (hx : x.Good w) :
    Calls Try.prog 4 #[.slice x.A x.n x.c] w fun e w' => e = .returned (.bool true) ∧ Below w.heap.size w w' := by
  obtain ⟨xA, xn, xc, xL⟩ := x
  have HX := Lib.hid hx
  have hxn := hx.nn
  unfold maxLen at hxn
  dsimp only at hxn ⊢
  clear hx
  go_enter Try.func4, Try.ntmps4
  go_wp2_with fail
  refine (alive_any w).mono ?_
  rintro e w0 ⟨rfl, hN0⟩
  have HN0 := Lib.hid hN0
  clear hN0
  go_wp2_with fail
  refine (long_g (x := ⟨xA, xn, xc, xL⟩) (HX.out.new HN0.out)).mono ?_
  rintro e w2 ⟨⟨bl, rfl, hbl⟩, hN2⟩
  have HN2 : Hid (New w w2) := Lib.hid (HN0.out.tr hN2)
  have HBL := Lib.hid hbl
  clear hN2 hbl HN0
  cases bl
  rotate_left
  · go_wp2_with fail
    go_ret
    exact ⟨rfl, HN2.out⟩
  have hsx := sizes_g HX.out (HBL.out rfl)
  have hx7 : xn ≤ 700 := hsx.1
  have HSX : Hid (∀ c ∈ xL, c.k.n ≤ maxLen ∧ c.v.n ≤ maxLen) := Lib.hid hsx.2
  have HXL : Hid (xL.length = xn) := Lib.hid HX.out.tb.len
  clear hsx HBL
  go_wp2_with fail
  refine (new_any w.heap.size w2 HN2.out.size).mono ?_
  rintro e w3 ⟨g, b, rfl, hT3, hN3, hg3, hb3⟩
  have HP : Hid (BaI w g b 0 none 0 w3) := Lib.hid ⟨HN2.out.tr hN3, ⟨Nat.le_trans HN2.out.size hg3, Nat.le_trans HN2.out.size hb3⟩, ⟨_, _, _, _, hT3, RTb.nil _, (fun c h => nomatch h), by simp [cl, sct, cont], Nat.zero_le _, Nat.zero_le _⟩⟩
  clear hT3 hN3 hg3 hb3 HN2
  go_wp2_with fail
  go_loopw [4, 19] (fun s i wr => ∃ (j n' : Nat) (A' : Option Addr) (c' : Nat), j ≤ xn ∧ i = .int .i64 j ∧ s = .slice A' n' c' ∧ Hid (BaI w g b j A' n' wr)) (fun s i _ => xn - (intOf i).toNat)
  case atStart => exact ⟨0, 0, none, 0, Nat.zero_le _, rfl, rfl, HP⟩
  case round =>
    obtain ⟨j, n', A', c', hj, rfl, rfl, HI⟩ := hrel
    clear HP
    by_cases hlt : j < xn
    · obtain ⟨X, mm, E, T, hTB, hRT, hsm, hct, hmm, hE⟩ := HI.out.st
      have HTB := Lib.hid hTB
      have HRT := Lib.hid hRT
      have HSM := Lib.hid hsm
      have HCT := Lib.hid hct
      have hn' : n' ≤ 1000000 := by have := hRT.len_le hct; omega
      clear hTB hRT hsm hct
      have hXR := HI.out.new.rd HX.out.tb.rd
      dsimp only at hXR
      obtain ⟨gA, o, hl, rfl, -, -, hrg⟩ := rd_row (f := Ch.cells) (L := xL) (fun _ => rfl) (by omega) hXR hlt
      have c0 : wr.cell? ⟨gA, o + j * 3, none⟩ = some (.slice xL[j].k.A xL[j].k.n xL[j].k.c) := hrg 0 _ rfl
      have c1 : wr.cell? ⟨gA, o + j * 3 + 1, none⟩ = some (.slice xL[j].v.A xL[j].v.n xL[j].v.c) := hrg 1 _ rfl
      have c2 : wr.cell? ⟨gA, o + j * 3 + 2, none⟩ = some (.bool xL[j].d) := hrg 2 _ rfl
      have hin := HX.out.tb.el xL[j] (List.getElem_mem _)
      have hsz := HSX.out xL[j] (List.getElem_mem _)
      generalize xL[j] = y at c0 c1 c2 hin hsz
      have HIN := Lib.hid hin
      have HSZ := Lib.hid hsz
      have hj0 : (0 : Int) ≤ (j : Int) := by omega
      have hjn : (j : Int) < (xn : Int) := by omega
      clear hin hsz hrg hXR hl
      obtain ⟨wa, hwa⟩ : ∃ wa : World, wa = wr.alloc (.cells #[.slice y.k.A y.k.n y.k.c, .slice y.v.A y.v.n y.v.c, .bool y.d] 41) := ⟨_, rfl⟩
      have HNa : Hid (New wr wa) := Lib.hid (by rw [hwa]; exact New.al (New.refl _) _)
      have HBa : Hid (Blk wa wr.heap.size 41 #[.slice y.k.A y.k.n y.k.c, .slice y.v.A y.v.n y.v.c, .bool y.d]) := Lib.hid (by rw [hwa]; exact Blk.new _ _ _)
      go_upto_region 10 with fail
      rw [← hwa]
      have e0 : wa.cell? ⟨wr.heap.size, 0, none⟩ = some (.slice y.k.A y.k.n y.k.c) := HBa.out.cell 0
      have e1 : wa.cell? ⟨wr.heap.size, 1, none⟩ = some (.slice y.v.A y.v.n y.v.c) := HBa.out.cell 1
      have e2 : wa.cell? ⟨wr.heap.size, 2, none⟩ = some (.bool y.d) := HBa.out.cell 2
      clear hwa c0 c1 c2
      go_wp2_with fail
      obtain ⟨wb, hwb⟩ : ∃ wb : World, wb = wa.alloc (.cells #[.slice y.k.A y.k.n y.k.c, .slice y.v.A y.v.n y.v.c, .bool y.d] 41) := ⟨_, rfl⟩
      have HNb : Hid (New wr wb) := Lib.hid (by rw [hwb]; exact New.al HNa.out _)
      have HBb : Hid (Blk wb wa.heap.size 41 #[.slice y.k.A y.k.n y.k.c, .slice y.v.A y.v.n y.v.c, .bool y.d]) := Lib.hid (by rw [hwb]; exact Blk.new _ _ _)
      have HBa2 : Hid (Blk wb wr.heap.size 41 #[.slice y.k.A y.k.n y.k.c, .slice y.v.A y.v.n y.v.c, .bool y.d]) := Lib.hid (by rw [hwb]; exact HBa.out.alloc _)
      rw [← hwb]
      clear hwb e0 e1 e2
      have HBlt : Hid (b < wr.heap.size) := Lib.hid HTB.out.blt
      have hRy : Rd (fun k => k ≠ b) wb 3 (some ⟨wa.heap.size, 0, none⟩) 1 ([y].flatMap Ch.cells) := by
        have := Rd.ofBlk (p := fun k => k ≠ b) HBb.out 3 1 rfl (by have := HNa.out.size; have := HBlt.out; omega)
        simpa [Ch.cells] using this
      have HRY := Lib.hid hRy
      have hyin : ∀ c ∈ [y], c.In (fun k => k ≠ b) wb := fun c hc => by
        rw [List.mem_singleton.1 hc]
        exact (HIN.out.new (HI.out.new.tr HNb.out)).imp (fun k hk => by have := HI.out.gb.2; omega)
      have HYI := Lib.hid hyin
      have hok1 : chsOk [y] = chOk y := by simp [chsOk]
      clear hRy hyin
      by_cases hok : chOk y = true
      · have hsp := chsOk_spec (L := [y]) (hok1.trans hok)
        have HSP := Lib.hid (hsp.2.2 y (by simp))
        have HOK : Hid (chsOk [y] = true) := Lib.hid (hok1.trans hok)
        clear hsp hok hok1
        refine (apply_any (P := fun k => k ≠ b) (HTB.out.new HNb.out) (some ⟨wa.heap.size, 0, none⟩) 1 1 [y] HRY.out rfl HYI.out (fun k hk => hk) HOK.out (by omega)).mono ?_
        rintro e w4 ⟨rfl, X4, E4, hT4, hc4, hF4, -⟩
        have HT4 := Lib.hid hT4
        have HC4 := Lib.hid hc4
        have HR4 : Hid (RTb w4 A' n' T) := Lib.hid (by
          obtain ⟨f, hM⟩ := (HTB.out.new HNb.out).mapAt
          exact (HRT.out.new HNb.out).frb hM hF4)
        have HN4 : Hid (New w w4) := Lib.hid ((HI.out.new.tr HNb.out).fr hF4 (fun k hk => by have := HI.out.gb.2; omega))
        have hB4 : Blk w4 wr.heap.size 41 #[.slice y.k.A y.k.n y.k.c, .slice y.v.A y.v.n y.v.c, .bool y.d] := HBa2.out.fr hF4 (by have := HBlt.out; omega)
        have e0 : w4.cell? ⟨wr.heap.size, 0, none⟩ = some (.slice y.k.A y.k.n y.k.c) := hB4.cell 0
        have e1 : w4.cell? ⟨wr.heap.size, 1, none⟩ = some (.slice y.v.A y.v.n y.v.c) := hB4.cell 1
        have e2 : w4.cell? ⟨wr.heap.size, 2, none⟩ = some (.bool y.d) := hB4.cell 2
        clear hT4 hc4 hF4 hB4
        go_wp2_with fail
        refine (rapply_tb A' n' c' T y w4 HR4.out (by omega) (HIN.out.new HN4.out)).mono ?_
        rintro e w5 ⟨⟨A5, n5, c5, rfl, hR5⟩, hN5⟩
        have hsct := rdo_sct (L := T) (T := cont E) [y] HCT.out (kn_tb HTB.out) (fun c hc => by rw [List.mem_singleton.1 hc]; exact HIN.out.k.byt)
        rw [← HC4.out] at hsct
        have hE4 : E4.length ≤ j + 1 := by
          have h1 := congrArg List.length HC4.out
          have h2 := doCs_le (cont E) [y]
          rw [cont_len] at h1 h2
          simp at h2
          omega
        have HPN : Hid (BaI w g b (j + 1) A5 n5 w5) := Lib.hid ⟨HN4.out.tr hN5, HI.out.gb, ⟨X4, mm + 1, E4, rapp geS y T, HT4.out.new hN5, hR5, rapp_all HSM.out (fun hd => ⟨⟨hd, HSP.out.2.1, HSP.out.2.2.1⟩, HSP.out.1⟩), hsct.1, by omega, hE4⟩⟩
        clear hR5 hN5 hsct e0 e1 e2 hE4
        go_wp2_with fail
        go_roundw
        case rel => exact ⟨j + 1, n5, A5, c5, by omega, by go_num, rfl, HPN⟩
        case measure => simp [intOf]; omega
      · have hok : chOk y = false := by simpa using hok
        refine (apply_bad g (some ⟨wa.heap.size, 0, none⟩) 1 1 [y] wb HRY.out rfl (by omega) (fun c hc => by rw [List.mem_singleton.1 hc]; exact HSZ.out) (hok1.trans hok)).mono ?_
        rintro e w4 ⟨rfl, hN4⟩
        have HPN : Hid (BaI w g b (j + 1) A' n' w4) := Lib.hid ⟨HI.out.new.tr (HNb.out.tr hN4), HI.out.gb, ⟨X, mm, E, T, HTB.out.new (HNb.out.tr hN4), HRT.out.new (HNb.out.tr hN4), HSM.out, HCT.out, by omega, by omega⟩⟩
        clear hN4 hok hok1
        go_wp2_with fail
        go_roundw
        case rel => exact ⟨j + 1, n', A', c', by omega, by go_num, rfl, HPN⟩
        case measure => simp [intOf]; omega
    · obtain rfl : j = xn := by omega
      obtain ⟨X, mm, E, T, hTB, hRT, hsm, hct, hmm, hE⟩ := HI.out.st
      have HTB := Lib.hid hTB
      have HRT := Lib.hid hRT
      have HSM := Lib.hid hsm
      have HCT := Lib.hid hct
      have hn' : n' ≤ 1000000 := by have := hRT.len_le hct; omega
      clear hTB hRT hsm hct
      go_wp2_with fail
      refine (batches_any HTB.out (by omega) (by omega)).mono ?_
      rintro e w4 ⟨⟨B4, n4, c4, R, P, rfl, hR4, hcP, hRP, hcs⟩, hN4⟩
      have HR4 := Lib.hid hR4
      have HCP := Lib.hid hcP
      have HRP := Lib.hid hRP
      have HCS := Lib.hid hcs
      have HN4 := Lib.hid hN4
      clear hR4 hcP hRP hcs hN4
      go_wp2_with fail
      refine (rbatches_any A' n' c' T w4 (HRT.out.new HN4.out) hn' (fun y hy => (HSM.out y hy).1)).mono ?_
      rintro e w5 ⟨⟨B5, n5, c5, R', rfl, hR5, hRP'⟩, hN5⟩
      have HN5 : Hid (New wr w5) := Lib.hid (HN4.out.tr hN5)
      have HR5 := Lib.hid hR5
      have HR4 : Hid (Bts w5 B4 n4 R) := Lib.hid (HR4.out.new hN5)
      have HRP' := Lib.hid hRP'
      clear hR5 hRP' hN5
      go_wp2_with fail
      refine (new_any w5.heap.size w5 (Nat.le_refl _)).mono ?_
      rintro e w6 ⟨g2, b2, rfl, hT6, hN6, hg6, hb6⟩
      -- both sides alike
      have hsame : R.map (fun x => x.L.map ct1) = R'.map (fun x => x.L.map ct1) := by
        have h1 := split_same (HCP.out.trans HCT.out.symm)
        rw [← HRP.out, ← HRP'.out, List.map_map, List.map_map] at h1
        exact h1
      have hnn : n4 = n5 := by
        have := congrArg List.length hsame
        rw [List.length_map, List.length_map, HR4.out.len, HR5.out.len] at this
        exact this
      subst hnn
      have HSAME := Lib.hid hsame
      have hn4 : n4 ≤ 700 := by
        have h1 := HR4.out.len
        have h2 := rows_le _ (fun l hl => (spl_rows szc P l hl).1)
        rw [spl_flat, ← HRP.out, List.length_map] at h2
        have h3 := congrArg List.length HCP.out
        unfold cl at h3
        rw [List.length_map, (sct_perm _).length_eq, cont_len] at h3
        omega
      have HN6 : Hid (New wr w6) := Lib.hid (HN5.out.tr hN6)
      have HT6 := Lib.hid hT6
      have HR46 : Hid (Bts w6 B4 n4 R) := Lib.hid (HR4.out.new hN6)
      have HR56 : Hid (Bts w6 B5 n4 R') := Lib.hid (HR5.out.new hN6)
      have HZ6 : Hid (wr.heap.size ≤ g2 ∧ wr.heap.size ≤ b2) := Lib.hid ⟨Nat.le_trans HN5.out.size hg6, Nat.le_trans HN5.out.size hb6⟩
      clear hT6 hN6 hg6 hb6 hsame
      go_wp2_with fail
      have HBB : Hid (BbI w w5.heap.size g b mm E A' n' T B4 n4 R B5 R' g2 b2 0 w6) := Lib.hid ⟨HI.out.new.tr HN6.out, ⟨X, HTB.out.new HN6.out⟩, HRT.out.new HN6.out, HR46.out, HR56.out, ⟨_, 0, [], HT6.out, by simp [doCs, cont], Nat.zero_le _, Nat.zero_le _⟩, by have := HI.out.new.size; have := HZ6.out; omega, by have := HTB.out.blk.lt; have := HZ6.out; omega, by have := HTB.out.blt; have := HZ6.out; omega⟩
      clear HR46 HR56 HT6 HN6 HR4 HR5 HZ6
      go_loopw [44] (fun i wk => ∃ (k : Nat), k ≤ n4 ∧ i = .int .i64 k ∧ Hid (BbI w w5.heap.size g b mm E A' n' T B4 n4 R B5 R' g2 b2 k wk)) (fun i _ => n4 - (intOf i).toNat)
      case atStart => exact ⟨0, Nat.zero_le _, rfl, HBB⟩
      case round =>
        clear HBB
        obtain ⟨k, hk, rfl, HBB⟩ := hrel
        by_cases hkl : k < n4
        · obtain ⟨X2, m2, E2, hT2, hc2, hm2, hE2⟩ := HBB.out.ub
          obtain ⟨f2, hM2⟩ := hT2.mapAt
          obtain ⟨gB, oB, hlB, hBe, -, -, hrB⟩ := rd_row (size := 1) (f := Sl.cells) (L := R) (fun _ => rfl) (by omega) HBB.out.r.rd hkl
          obtain ⟨gD, oD, hlD, hDe, hnD, -, hrD⟩ := rd_row (size := 1) (f := Sl.cells) (L := R') (fun _ => rfl) (by omega) (rd_not_map HBB.out.r'.rd hM2 (by decide)) hkl
          subst hBe hDe
          rw [Nat.mul_one] at hrB hrD
          have c0 : wr.cell? ⟨gB, oB + k, none⟩ = some (.slice R[k].A R[k].n R[k].c) := hrB 0 _ rfl
          have c1 : wr.cell? ⟨gD, oD + k, none⟩ = some (.slice R'[k].A R'[k].n R'[k].c) := hrD 0 _ rfl
          have hrow := row_facts HBB.out.rt HCT.out HSM.out HCP.out HCS.out HRP.out HRP'.out HBB.out.r HBB.out.r' HSAME.out hlB hlD
          have hx := HBB.out.r.el R[k] (List.getElem_mem _)
          have hx' := HBB.out.r'.el R'[k] (List.getElem_mem _)
          have htk : (R.take (k + 1)).flatMap Sl.L = (R.take k).flatMap Sl.L ++ R[k].L := by
            rw [List.take_succ_eq_append_getElem hlB, List.flatMap_append]
            simp
          generalize R[k] = x at c0 hrow hx htk
          generalize R'[k] = y at c1 hrow hx'
          obtain ⟨pA, pn, pc, pL⟩ := x
          obtain ⟨qA, qn, qc, qL⟩ := y
          dsimp only at c0 c1 hrow hx hx' htk
          obtain ⟨hok, hs1, hs2, hl1, hl2, hput⟩ := hrow
          have HT2 := Lib.hid hT2
          have HC2 := Lib.hid hc2
          have HM2 := Lib.hid hM2
          have HX2 := Lib.hid hx
          have HY2 := Lib.hid hx'
          have HTK := Lib.hid htk
          have HOK2 := Lib.hid hok
          have HS1 := Lib.hid hs1
          have HS2 := Lib.hid hs2
          have HPUT := Lib.hid hput
          have HND := Lib.hid hnD
          have hpn : pn ≤ 600 := by have := hx.len; omega
          have hqn : qn ≤ 600 := by have := hx'.len; omega
          have hk0 : (0 : Int) ≤ (k : Int) := by omega
          have hkn : (k : Int) < (n4 : Int) := by omega
          clear hT2 hc2 hM2 hx hx' htk hok hs1 hs2 hput hnD hrB hrD hlB hlD hl1 hl2
          go_wp2_with fail
          refine wp_region_mixH (fun w' => Fr (fun j => j = b2) wr w') [(true, 0), (true, 3), (true, 4), (true, 5), (true, 6), (false, 1), (false, 2), (false, 7), (false, 8), (true, 9), (true, 10), (true, 11), (true, 12), (false, 13), (true, 14), (true, 15)] (by kernel_rfl) (by kernel_rfl) (Fr.drew (Fr.refl _ wr)) (fun hne => ?_)
          have q1 : ∀ p : HW (fun w' => Fr (fun j => j = b2) wr w'), p.w.cell? ⟨gD, oD + k, none⟩ = some (.slice qA qn qc) := fun p => p.h.cell_some c1 (fun e => HND.out.2 e)
          iterate 5 (refine mix_take (o := ⟨_, _, _, _, _, _⟩) rfl (fun K hK => ?_); go_simp; refine hK _ ?_; clear hK K)
          refine mix_act (o := ⟨_, _, _, _, _, _⟩) rfl (fun K hK => ?_) (.inl (by rfl))
          go_simp
          refine (doc_any pA pn pc pL wr.drew (New.rd (New.dr (New.refl wr)) HX2.out.rd) HX2.out.len (by omega)).mono ?_
          rintro e wa ⟨⟨A1, d1, rfl, hO⟩, hN⟩
          dsimp only
          have HNa : Hid (New wr wa) := Lib.hid (New.tr (New.dr (New.refl _)) hN)
          have HRa : Hid (RTb wa A1 pn pL) := Lib.hid ⟨rd_szs (Rd.own hO rfl), HX2.out.len, fun c hc => Ch.In.szs ((HX2.out.el c hc).new HNa.out)⟩
          refine hK.out _ _ (fun _ => HNa.out.toFr _) ?_
          clear hK K hO hN
          refine mix_act (o := ⟨_, _, _, _, _, _⟩) rfl (fun K hK => ?_) (.inl (by rfl))
          go_simp
          refine (rput_any A1 pn d1 pL wa HRa.out (by omega) (fun z hz => (HS1.out z hz).2)).mono ?_
          rintro e wb ⟨⟨A2, d2, rfl, hO⟩, hN⟩
          dsimp only
          have HNb : Hid (New wr wb) := Lib.hid (HNa.out.tr hN)
          have HRb : Hid (Rd (fun _ => True) wb 1 A2 (putB pL).length (u8s (putB pL))) := Lib.hid ((Rd.own hO rfl).imp (fun _ _ => trivial))
          refine hK.out _ _ (fun _ => HNb.out.toFr _) ?_
          clear hK K hO hN
          refine mix_act (o := ⟨_, _, _, _, _, _⟩) rfl (fun K hK => ?_) (.inl (by rfl))
          go_simp
          refine (rput_any qA qn qc qL wb (HY2.out.new HNb.out) (by omega) (fun z hz => (HS2.out z hz).2)).mono ?_
          rintro e wc ⟨⟨A3, d3, rfl, hO⟩, hN⟩
          dsimp only
          have HNc : Hid (New wr wc) := Lib.hid (HNb.out.tr hN)
          have HRc : Hid (Rd (fun _ => True) wc 1 A3 (putB qL).length (u8s (putB qL))) := Lib.hid ((Rd.own hO rfl).imp (fun _ _ => trivial))
          have HRb : Hid (Rd (fun _ => True) wc 1 A2 (putB pL).length (u8s (putB pL))) := Lib.hid (hN.rd HRb.out)
          refine hK.out _ _ (fun _ => HNc.out.toFr _) ?_
          clear hK K hO hN
          have hbt := bytes_any A2 A3 (putB pL).length (putB qL).length d2 d3 (putB pL) (putB qL) wc HRb.out HRc.out (putB_byt HX2.out) (putB_byt HY2.out)
          have hts : decide (putB pL = putB qL) = true := decide_eq_true HPUT.out
          rw [hts] at hbt
          have HBT := Lib.hid hbt
          clear hbt hts
          refine mix_act (o := ⟨_, _, _, _, _, _⟩) rfl (fun K hK => ?_) (.inl (by rfl))
          go_simp
          refine HBT.out.mono ?_
          rintro e wd ⟨rfl, rfl⟩
          dsimp only
          refine hK.out _ _ (fun _ => HNc.out.toFr _) ?_
          clear hK K
          iterate 4 (refine mix_take (o := ⟨_, _, _, _, _, _⟩) rfl (fun K hK => ?_); go_simp; refine hK _ ?_; clear hK K)
          have hrx : Rd (fun k => k ≠ b2) wc 3 pA pn (pL.flatMap Ch.cells) := (HNc.out.rd (rd_not_map HX2.out.rd HM2.out (by decide))).imp (fun k hk => hk.2)
          have hex : ∀ c ∈ pL, c.In (fun k => k ≠ b2) wc := fun c hc => ⟨⟨(HNc.out.rd (rd_not_map (HX2.out.el c hc).k.rd HM2.out (by decide))).imp (fun k hk => hk.2), (HX2.out.el c hc).k.byt⟩, ⟨(HNc.out.rd (rd_not_map (HX2.out.el c hc).v.rd HM2.out (by decide))).imp (fun k hk => hk.2), (HX2.out.el c hc).v.byt⟩⟩
          have HAP := Lib.hid (apply_any (P := fun k => k ≠ b2) (HT2.out.new HNc.out) pA pn pc pL hrx HX2.out.len hex (fun k hk => hk) HOK2.out (by omega))
          clear hrx hex
          refine mix_act (o := ⟨_, _, _, _, _, _⟩) rfl (fun K hK => ?_) (.inl (by rfl))
          go_simp
          refine HAP.out.mono ?_
          rintro e w8 ⟨rfl, X8, E8, hT8, hc8, hF8, -⟩
          dsimp only
          have HF8 : Hid (Fr (fun j => j = b2) wr w8) := Lib.hid ((HNc.out.toFr _).trans hF8)
          have HBN : Hid (BbI w w5.heap.size g b mm E A' n' T (some ⟨gB, oB, none⟩) n4 R (some ⟨gD, oD, none⟩) R' g2 b2 (k + 1) w8) := Lib.hid (by
            have hne := HBB.out.ne
            obtain ⟨Xt, hXt⟩ := HBB.out.tb
            refine ⟨HBB.out.new.fr HF8.out (fun j hj => by omega), ⟨Xt, hXt.fr HF8.out hne.2.1 hne.2.2 (fun j hj hx => ?_)⟩, HBB.out.rt.frb HM2.out HF8.out, HBB.out.r.frb HM2.out HF8.out, HBB.out.r'.frb HM2.out HF8.out, ⟨X8, m2 + pn, E8, hT8, ?_, by omega, ?_⟩, hne⟩
            · subst hj
              exact IsT.not_map HM2.out (hXt.xs _ hx).2
            · rw [hc8, HC2.out, HTK.out]
              simp [doCs]
            · have h1 := congrArg List.length hc8
              have h2 := doCs_le (cont E2) pL
              rw [cont_len] at h1 h2
              rw [HX2.out.len] at h2
              omega)
          refine hK.out _ _ (fun _ => HF8.out) ?_
          clear hK K hT8 hc8 hF8 HAP q1 c0 c1
          iterate 2 (refine mix_take (o := ⟨_, _, _, _, _, _⟩) rfl (fun K hK => ?_); go_simp; refine hK _ ?_; clear hK K)
          clear hne
          refine mix_done ?_
          go_wp2_with fail
          go_roundw
          case rel => exact ⟨k + 1, by omega, by go_num, HBN⟩
          case measure => simp [intOf]; omega
        · obtain rfl : k = n4 := by omega
          obtain ⟨Xt, hTt⟩ := HBB.out.tb
          obtain ⟨X2, m2, E2, hT2, hc2, hm2, hE2⟩ := HBB.out.ub
          have hfl : (R.take k).flatMap Sl.L = P := by
            rw [List.take_of_length_le (by rw [HBB.out.r.len]; exact Nat.le_refl _)]
            exact flat_rows HRP.out
          rw [hfl, doCs_puts P [] (fun c hc => (HCS.out c hc).1) (by
            rw [List.nil_append, HCP.out]
            exact ((kn_tb hTt).perm (sct_perm _).symm).nd), List.nil_append, HCP.out] at hc2
          have HTt := Lib.hid hTt
          have HT2 := Lib.hid hT2
          have HC2 := Lib.hid hc2
          clear hTt hT2 hc2 hfl
          go_wp2_with fail
          refine (same_live HTt.out HT2.out (by omega) (by omega) (by omega) (by rw [HC2.out]; exact (sct_perm _).symm)).mono ?_
          rintro e w8 ⟨rfl, hN8⟩
          have HN8 := Lib.hid hN8
          clear hN8
          go_wp2_with fail
          refine (is_any (HT2.out.new HN8.out) (by omega) (by omega) A' n' c' T (HBB.out.rt.new HN8.out) (fun c hc => ((HSM.out c hc).1).2) (sct_same HCT.out (kn_tb HTt.out) HC2.out)).mono ?_
          rintro e w9 ⟨rfl, hN9⟩
          go_wp2_with fail
          go_ret
          exact ⟨rfl, (HBB.out.new.tr HN8.out).tr hN9⟩
theorem batches_law {v1 : Value} {w : World} (h1 : ∃ x : Sl, v1 = .slice x.A x.n x.c ∧ x.Good w) :
    Calls Try.prog 4 #[v1] w fun e w' => e = .returned (.bool true) ∧ Below w.heap.size w w' := by
  obtain ⟨x, rfl, hx⟩ := h1
  exact batches_walk x hx
end Go.Proofs.Ytfhinmjpokollaa
