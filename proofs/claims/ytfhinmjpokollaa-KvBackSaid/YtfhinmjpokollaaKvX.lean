/- KvBack, as its statement's row wants it. No condition but the bound on what is read. -/
import Derived.Test.YtfhinmjpokollaaKvW
import Derived.Test.YtfhinmjpokollaaKvT
namespace Go.Proofs.Ytfhinmjpokollaa
set_option linter.unusedVariables false
set_option linter.unusedSimpArgs false
set_option linter.constructorNameAsVariable false
open Go.RowKit Go.Maps Go.Sort
attribute [local go_sem] Oper.semAt_some

theorem chB_byt {P : Nat → Prop} {w : World} {c : Ch} (h : c.In P w) : Byt (chB c) := by
  intro x hx
  unfold chB at hx
  rcases List.mem_append.1 hx with hx | hx
  · rcases List.mem_append.1 hx with hx | hx
    · rcases List.mem_append.1 hx with hx | hx
      · rw [List.mem_singleton.1 hx]
        cases c.d <;> decide
      · exact beL_byt _ _ x hx
    · exact h.k.byt x hx
  · cases hd : c.d
    · rw [hd, if_neg (by decide)] at hx
      rcases List.mem_append.1 hx with hx | hx
      · exact beL_byt _ _ x hx
      · exact h.v.byt x hx
    · rw [hd, if_pos rfl] at hx
      cases hx
theorem long_g {w : World} {x : Sl} (h : x.Good w) : Calls Try.prog 10 #[.slice x.A x.n x.c] w fun e w' => LongSays x.L e ∧ New w w' :=
  long_any x.A x.n x.c x.L w h.tb h.nn (fun c hc => ⟨(h.gd c hc).kn, (h.gd c hc).vn⟩)
theorem sizes_g {w : World} {x : Sl} (h : x.Good w) (hb : x.L.length ≤ 700 ∧ chSum x.L ≤ 20000) : x.n ≤ 700 ∧ ∀ c ∈ x.L, c.k.n ≤ maxLen ∧ c.v.n ≤ maxLen :=
  ⟨by rw [← h.tb.len]; exact hb.1, fun c hc => by have := chSum_mem hc; unfold maxLen; omega⟩
set_option maxHeartbeats 16000000 in
set_option maxRecDepth 100000 in
theorem back_walk {w : World} (x y : Sl) (hx : x.Good w) (hy : y.Good w) :
    Calls Try.prog 7 #[.slice x.A x.n x.c, .slice y.A y.n y.c] w fun e w' => e = .returned (.bool true) ∧ Below w.heap.size w w' := by
  obtain ⟨xA, xn, xc, xL⟩ := x
  obtain ⟨yA, yn, yc, yL⟩ := y
  have HX := Lib.hid hx
  have HY := Lib.hid hy
  have hxn := hx.nn
  unfold maxLen at hxn
  dsimp only at hxn ⊢
  clear hx hy
  refine (callsIn_wide (n := 3)).1 ?_
  refine callsIn_of_wp_marks Try.func7 rfl trivial ?_ rfl
  refine wpIn_wide.2 ?_
  simp only [Try.ntmps7, List.size_toArray, List.length_cons, List.length_nil, Nat.reduceAdd, Nat.reduceSub, Array.replicate_succ, Array.replicate_zero, List.push_toArray, List.append_toArray, List.nil_append, List.cons_append]
  go_wp2_with fail
  refine (alive_any w).mono ?_
  rintro e w1 ⟨rfl, hN1⟩
  have HN1 := Lib.hid hN1
  clear hN1
  go_wp2_with fail
  refine (long_g (x := ⟨xA, xn, xc, xL⟩) (HX.out.new HN1.out)).mono ?_
  rintro e w2 ⟨⟨bl, rfl, hbl⟩, hN2⟩
  have HN2 : Hid (New w w2) := Lib.hid (HN1.out.tr hN2)
  have HBL := Lib.hid hbl
  clear hN2 hbl HN1
  cases bl
  rotate_left
  · go_wp2_with fail
    refine leaves_marks [] _ (Marks.nil w2.heap.size _) (fun W' hS => ⟨.bool true, by simp [results, Try.results7, go_sem], rfl, HN2.out.trans (hS.below.mono HN2.out.size)⟩)
  go_wp2_with fail
  refine (long_g (x := ⟨yA, yn, yc, yL⟩) (HY.out.new HN2.out)).mono ?_
  rintro e w3 ⟨⟨bl, rfl, hbl⟩, hN3⟩
  have HN3 : Hid (New w w3) := Lib.hid (HN2.out.tr hN3)
  have HBM := Lib.hid hbl
  clear hN3 hbl HN2
  cases bl
  rotate_left
  · go_wp2_with fail
    refine leaves_marks [] _ (Marks.nil w3.heap.size _) (fun W' hS => ⟨.bool true, by simp [results, Try.results7, go_sem], rfl, HN3.out.trans (hS.below.mono HN3.out.size)⟩)
  have hsx := sizes_g HX.out (HBL.out trivial)
  have hsy := sizes_g HY.out (HBM.out rfl)
  have hx7 : xn ≤ 700 := hsx.1
  have hy7 : yn ≤ 700 := hsy.1
  have HSX : Hid (∀ c ∈ xL, c.k.n ≤ maxLen ∧ c.v.n ≤ maxLen) := Lib.hid hsx.2
  have HSY : Hid (∀ c ∈ yL, c.k.n ≤ maxLen ∧ c.v.n ≤ maxLen) := Lib.hid hsy.2
  have HXL : Hid (xL.length = xn) := Lib.hid HX.out.tb.len
  have HYL : Hid (yL.length = yn) := Lib.hid HY.out.tb.len
  clear hsx hsy HBL HBM
  by_cases hok : chsOk xL = true
  rotate_left
  · have hok : chsOk xL = false := by simpa using hok
    have HP := Lib.hid (put_bad xA xn xc xL w3 (HX.out.tb.new HN3.out) (by omega) HSX.out hok)
    clear hok
    go_wp2_with fail
    refine HP.out.mono ?_
    rintro e w4 ⟨rfl, hN4⟩
    have HN4 : Hid (New w w4) := Lib.hid (HN3.out.tr hN4)
    clear hN4 HP
    go_wp2_with fail
    refine leaves_marks [] _ (Marks.nil w4.heap.size _) (fun W' hS => ⟨.bool true, by simp [results, Try.results7, go_sem], rfl, HN4.out.trans (hS.below.mono HN4.out.size)⟩)
  have HOK := Lib.hid hok
  have hpl : (putB xL).length ≤ 100000000 := by
    have hsp := chsOk_spec hok
    unfold putB
    rw [List.length_append, beL_len]
    have := flat_len (L := xL) (fun c hc => by
      have h1 := chB_len (HX.out.tb.el c hc).k.len (HX.out.tb.el c hc).v.len
      have := hsp.2.2 c hc
      omega) xL.length (Nat.le_refl _)
    rw [List.take_length] at this
    omega
  have hpb : Byt (putB xL) := by
    intro b hb
    unfold putB at hb
    rcases List.mem_append.1 hb with hb | hb
    · exact beL_byt _ _ b hb
    · obtain ⟨c, hc, hbc⟩ := List.mem_flatMap.1 hb
      exact chB_byt (HX.out.tb.el c hc) b hbc
  obtain ⟨pb, hpbe⟩ : ∃ pb, pb = putB xL := ⟨_, rfl⟩
  have HPB := Lib.hid hpb
  have HP := Lib.hid (put_any xA xn xc xL w3 (HX.out.tb.new HN3.out) hok)
  rw [← hpbe] at HPB HP hpl
  have HPE := Lib.hid hpbe
  obtain ⟨pl, hple⟩ : ∃ pl, pl = pb.length := ⟨_, rfl⟩
  rw [← hple] at HP hpl
  clear hok hpb hpbe hple
  go_wp2_with fail
  refine HP.out.mono ?_
  rintro e w4 ⟨⟨pA, pc, base, rfl, hbase, hO4⟩, hN4⟩
  have HN4 : Hid (New w w4) := Lib.hid (HN3.out.tr hN4)
  have HO4 := Lib.hid hO4
  clear hN4 hO4 HP hbase
  have HPS := Lib.hid (parse_any pA pl pc pb w4 (Rd.own HO4.out rfl) HPB.out (by omega))
  go_wp2_with fail
  refine HPS.out.mono ?_
  rintro e w5 ⟨hps, hN5⟩
  have hpp : parseB pb = some (xL.map pcOf) := by
    rw [HPE.out]
    exact parse_put HX.out.tb.lens HOK.out
  rw [hpp] at hps
  rcases hps with ⟨h, _⟩ | ⟨zA, zn, zc, zL, hz, rfl, hZ⟩
  · cases h
  injection hz with hz
  have HZE : Hid (xL.map pcOf = zL.map pcOf) := Lib.hid hz
  have hzn : zn = xn := by
    have := congrArg List.length hz
    rw [List.length_map, List.length_map, HXL.out, hZ.len] at this
    exact this.symm
  subst hzn
  have HZ := Lib.hid hZ
  have HZ0 : Hid (chsOk zL = true) := Lib.hid (by rw [← pcsOk_len hZ.lens, ← hz, pcsOk_len HX.out.tb.lens]; exact HOK.out)
  have HN5 : Hid (New w w5) := Lib.hid (HN4.out.tr hN5)
  have HO5 : Hid (w5.ownsRow base 5 1 (.slice pA pl pc) pl (u8s pb)) := Lib.hid (hN5.own HO4.out)
  have HPZ : Hid (putB zL = pb) := Lib.hid (by rw [HPE.out]; exact (putB_pc HX.out.tb.lens hZ.lens hz).symm)
  clear hpp hz hZ hN5 HPS HO4
  have HP2 := Lib.hid (put_any zA zn zc zL w5 HZ.out HZ0.out)
  rw [HPZ.out] at HP2
  have hpl2 : pb.length = pl := by have := HO5.out.1; rw [u8s_len] at this; omega
  rw [hpl2] at HP2
  clear hpl2
  go_wp2_with fail
  refine HP2.out.mono ?_
  rintro e w6 ⟨⟨qA, qc, base2, rfl, hbase2, hO6⟩, hN6⟩
  have HN6 : Hid (New w w6) := Lib.hid (HN5.out.tr hN6)
  have HZ6 := Lib.hid (HZ.out.new hN6)
  have hbt := bytes_any pA qA pl pl pc qc pb pb w6 (Rd.own (hN6.own HO5.out) rfl) (Rd.own hO6 rfl) HPB.out HPB.out
  have hts : decide (pb = pb) = true := by simp
  rw [hts] at hbt
  have HBT := Lib.hid hbt
  clear hbt hts hN6 hO6 HP2 HZ HO5 HN5 hbase2
  go_wp2_with fail
  refine HBT.out.mono ?_
  rintro e w6' ⟨rfl, rfl⟩
  clear HBT
  go_wp2_with fail
  refine (new_any w.heap.size w6 HN6.out.size).mono ?_
  rintro e w7 ⟨g1, b1, rfl, hT7, hN7, hg1, hb1⟩
  have HN7 : Hid (New w w7) := Lib.hid (HN6.out.tr hN7)
  have HT7 := Lib.hid hT7
  have HZ7 := Lib.hid (HZ6.out.new hN7)
  have HB1 : Hid (w6.heap.size ≤ g1 ∧ w6.heap.size ≤ b1) := Lib.hid ⟨hg1, hb1⟩
  clear hT7 hN7 hg1 hb1 HZ6
  go_wp2_with fail
  refine (new_any w.heap.size w7 HN7.out.size).mono ?_
  rintro e w8 ⟨g2, b2, rfl, hT8, hN8, hg2, hb2⟩
  have HN8 : Hid (New w w8) := Lib.hid (HN7.out.tr hN8)
  have HT8 : Hid (TbIn (fun _ => False) w8 w.heap.size g1 b1 0 []) := Lib.hid (HT7.out.new hN8)
  have HU8 := Lib.hid hT8
  have HZ8 := Lib.hid (HZ7.out.new hN8)
  have HB2 : Hid (w7.heap.size ≤ g2 ∧ w7.heap.size ≤ b2 ∧ g1 < w7.heap.size ∧ b1 < w7.heap.size) := Lib.hid ⟨hg2, hb2, HT7.out.blk.lt, HT7.out.blt⟩
  clear hT8 hN8 hg2 hb2 HZ7 HT7
  go_wp2_with fail
  refine (apply_any (P := fun k => k < w.heap.size) HT8.out xA zn xc xL (HN8.out.rd HX.out.tb.rd) HXL.out (fun c hc => (HX.out.tb.el c hc).new HN8.out) (fun k hk => by have := HB1.out; have := HN6.out.size; omega) HOK.out (by omega)).mono ?_
  rintro e w9 ⟨rfl, X9, E9, hT9, hc9, hF9, hX9⟩
  have HT9 := Lib.hid hT9
  have HC9 := Lib.hid hc9
  have HU9 : Hid (TbIn (fun _ => False) w9 w.heap.size g2 b2 0 []) := Lib.hid (HU8.out.fr hF9 (by have := HB2.out; omega) (by have := HB2.out; omega) (fun k _ h => h))
  have HZ9 : Hid (RTb w9 zA zn zL) := Lib.hid (by
    obtain ⟨f, hM⟩ := HT8.out.mapAt
    exact HZ8.out.frb hM hF9)
  have HN9 : Hid (New w w9) := Lib.hid (HN8.out.fr hF9 (fun k hk => by have := HB1.out; have := HN6.out.size; omega))
  clear hT9 hc9 hF9 hX9 HT8 HU8 HZ8
  go_wp2_with fail
  have HZN : Hid (Rd (fun k => k < w9.heap.size ∧ k ≠ b2) w9 3 zA zn (zL.flatMap Ch.cells) ∧ ∀ c ∈ zL, c.In (fun k => k < w9.heap.size ∧ k ≠ b2) w9) := Lib.hid (by
    obtain ⟨f, hM⟩ := HU9.out.mapAt
    exact ⟨rd_not_map HZ9.out.rd hM (by decide), fun c hc => ⟨⟨rd_not_map (HZ9.out.el c hc).k.rd hM (by decide), (HZ9.out.el c hc).k.byt⟩, ⟨rd_not_map (HZ9.out.el c hc).v.rd hM (by decide), (HZ9.out.el c hc).v.byt⟩⟩⟩)
  refine (apply_any HU9.out zA zn zc zL HZN.out.1 HZ9.out.len HZN.out.2 (fun k hk => hk.2) HZ0.out (by omega)).mono ?_
  rintro e wa ⟨rfl, Xa, Ea, hTa, hca, hFa, hXa⟩
  have HUa := Lib.hid hTa
  have HCC : Hid (cont E9 = cont Ea) := Lib.hid (by rw [HC9.out, hca]; exact doCs_pc HZE.out)
  have HTa : Hid (TbIn X9 wa w.heap.size g1 b1 (0 + zn) E9) := Lib.hid (HT9.out.fr hFa (by have := HB2.out; omega) (by have := HB2.out; omega) (fun k hk hx => by
    subst hk
    obtain ⟨f, hM⟩ := HU9.out.mapAt
    exact IsT.not_map hM (HT9.out.xs _ hx).2))
  have HNa : Hid (New w wa) := Lib.hid (HN9.out.fr hFa (fun k hk => by have := HB2.out; have := HN7.out.size; omega))
  have HEL : Hid (E9.length ≤ 700) := Lib.hid (by
    have h1 := congrArg List.length HC9.out
    have h2 := doCs_le (cont []) xL
    rw [cont_len] at h1 h2
    rw [HXL.out] at h2
    simp at h2
    omega)
  clear hTa hca hFa hXa HZN HU9 HZ9 HT9 HC9
  go_wp2_with fail
  refine (same_live HTa.out HUa.out (by omega) (by omega) (by have := HEL.out; omega) (by rw [HCC.out])).mono ?_
  rintro e wb ⟨rfl, hNb⟩
  have HTb := Lib.hid (HTa.out.new hNb)
  have HUb := Lib.hid (HUa.out.new hNb)
  have HNb : Hid (New w wb) := Lib.hid (HNa.out.tr hNb)
  clear hNb HTa HUa
  go_wp2_with fail
  refine (copy_any HTb.out HNb.out.size).mono ?_
  rintro e wc ⟨g3, b3, rfl, hTc, hNc, hg3, hb3⟩
  have HTc := Lib.hid (HTb.out.new hNc)
  have HUc := Lib.hid (HUb.out.new hNc)
  have HVc := Lib.hid hTc
  have HNc : Hid (New w wc) := Lib.hid (HNb.out.tr hNc)
  have HB3 : Hid (wb.heap.size ≤ b3 ∧ g1 < wb.heap.size ∧ b1 < wb.heap.size ∧ g2 < wb.heap.size ∧ b2 < wb.heap.size) := Lib.hid ⟨hb3, HTb.out.blk.lt, HTb.out.blt, HUb.out.blk.lt, HUb.out.blt⟩
  clear hTc hNc hg3 hb3 HTb HUb
  -- the copy turns, whatever comes
  have HAP : Hid (Calls Try.prog 12 #[.pointer (some ⟨g3, 0, none⟩), .slice yA yn yc] wc fun e w' => (∃ v, e = .returned v) ∧ Fr (fun k => k = b3) wc w') := Lib.hid (by
    by_cases hoy : chsOk yL = true
    · refine (apply_any (P := fun k => k < w.heap.size) HVc.out yA yn yc yL (HNc.out.rd HY.out.tb.rd) HYL.out (fun c hc => (HY.out.tb.el c hc).new HNc.out) (fun k hk => by have := HB3.out; have := HNb.out.size; omega) hoy (by omega)).mono ?_
      rintro e w' ⟨rfl, X', E', _, _, hF, _⟩
      exact ⟨⟨_, rfl⟩, hF⟩
    · refine (apply_bad g3 yA yn yc yL wc (HNc.out.rd HY.out.tb.rd) HYL.out (by omega) HSY.out (by simpa using hoy)).mono ?_
      rintro e w' ⟨rfl, hN⟩
      exact ⟨⟨_, rfl⟩, hN.toFr _⟩)
  go_wp2_with fail
  refine HAP.out.mono ?_
  rintro e wd ⟨⟨v, rfl⟩, hFd⟩
  have hnm : ∀ (X : Nat → Prop) (g b m : Nat) (E : Tab), TbIn X wc w.heap.size g b m E → g < wb.heap.size → b < wb.heap.size → TbIn X wd w.heap.size g b m E := fun X g b m E h hg hb =>
    h.fr hFd (by have := HB3.out; omega) (by have := HB3.out; omega) (fun k hk hx => by
      subst hk
      obtain ⟨f, hM⟩ := HVc.out.mapAt
      exact IsT.not_map hM (h.xs _ hx).2)
  have HTd := Lib.hid (hnm _ _ _ _ _ HTc.out HB3.out.2.1 HB3.out.2.2.1)
  have HUd := Lib.hid (hnm _ _ _ _ _ HUc.out HB3.out.2.2.2.1 HB3.out.2.2.2.2)
  have HNd : Hid (New w wd) := Lib.hid (HNc.out.fr hFd (fun k hk => by have := HB3.out; have := HNb.out.size; omega))
  clear hFd hnm HAP HTc HUc HVc HB3
  go_wp2_with fail
  refine (all_any (some ⟨g1, 0, none⟩) wd).mono ?_
  rintro e we ⟨rfl, hwe⟩
  have HNde : Hid (New wd we) := Lib.hid (by rw [hwe]; exact New.al (New.refl _) _)
  have HS := Lib.hid (all1_live (HTd.out.new HNde.out) (by omega) (by have := HEL.out; omega) (fun _ => False) wd.heap.size (by rw [hwe]; exact Blk.new wd _ _) (fun j hj => hj.elim))
  have HNe : Hid (New w we) := Lib.hid (HNd.out.tr HNde.out)
  have HTe := Lib.hid (HTd.out.new HNde.out)
  have HUe := Lib.hid (HUd.out.new HNde.out)
  clear hwe HTd HUd HNde
  go_wp2_with fail
  refine wp_rangeR rfl (enters_of Try.func44 (by kernel_rfl) rfl) (fun x : List Int × Fm => #[.string (strOfNums x.1), x.2.val]) (fun _ => rfl) HS.out (fun x W W' hg hp => hg.puts hp) (fun h k => h.tr k) (fun W W' hp => Kk.puts hp)
    (fun _ W => New we W) (fun _ _ _ h hN => h.tr hN) (fun _ _ _ h hp => h.puts hp (Nat.le_refl _)) (New.refl _) ?a1 ?assign ?body ?done
  case assign =>
    intro l x W K hK
    gi_wp2
    exact hK
  case body =>
    rintro l pre x W hpl hN hG -
    have HG := Lib.hid hG.1
    have HNW := Lib.hid hN
    have hxn2 : x.2.n ≤ 16384 := hG.2.2.1
    clear hG hN hpl
    obtain ⟨xk, vA, vn, vc, vs⟩ := x
    simp only [Fm.val] at HG ⊢
    dsimp only at HG hxn2
    gi_wp2
    gi_loopw [92] (fun i wr => ∃ (j : Nat) (ys : List Int), j ≤ vn ∧ i = .int .i64 j ∧ Hid (wr.ownsRow we.heap.size 5 1 (.slice vA vn vc) vn (ys.map (Value.int .u8))) ∧ Hid (Fr (fun k => (Value.slice vA vn vc).ownBlock = some k) W wr)) (fun i _ => vn - (intOf i).toNat)
    case atStart => exact ⟨0, vs, Nat.zero_le _, rfl, HG, Lib.hid (Fr.refl _ _)⟩
    case round =>
      obtain ⟨j, ys, hj, rfl, HO, HFr⟩ := hrel
      by_cases hjl : j < vn
      · obtain ⟨gV, cV, he, -, -⟩ := own_form HO.out (by omega)
        injection he with he1 he2 he3
        subst he1 he3
        have hyl : ys.length = vn := by have := HO.out.1; rw [List.length_map] at this; omega
        have hjy : j < ys.length := by omega
        have cj : wr.cell? ⟨gV, j, none⟩ = some (.int .u8 ys[j]) := by
          rw [HO.out.cellAt j (by omega), List.getElem?_map, List.getElem?_eq_getElem hjy]
          rfl
        have fj : wr.frozen? ⟨gV, j, none⟩ = false := HO.out.frozenAt j
        have hst := HO.out.stored j
        generalize ys[j] = yj at cj
        have HST := Lib.hid hst
        have hj0 : (0 : Int) ≤ (j : Int) := by omega
        have hjn : (j : Int) < (vn : Int) := by omega
        have HYL := Lib.hid hyl
        clear hst hyl hjy
        gi_wp2
        refine ⟨⟨j + 1, ys.set j (bits BinOp.xor .u8 yj 1), by omega, by go_num, Lib.hid ?_, Lib.hid ?_⟩, by simp [intOf]; omega⟩
        · have := (HST.out (.int .u8 (bits BinOp.xor .u8 yj 1))).1
          rwa [← List.map_set] at this
        · exact HFr.out.setCell (p := ⟨gV, j, none⟩) (fun _ => rfl) _
      · obtain rfl : j = vn := by omega
        gi_wp2
        have hot : ∀ k, (Value.slice vA j vc).ownBlock = some k → IsT 5 W k ∧ we.heap.size ≤ k := fun k hk => ⟨own_isT' HG.out hk, (own_lt HG.out k hk).1⟩
        refine ⟨Kept.fr HFr.out (fun k o hB hs ho => ?_), HFr.out.mono (fun k _ hk => .inr ⟨(hot k hk).2, IsT.not_own HG.out (by decide) hk⟩), HNW.out.fr HFr.out (fun k hk => (hot k hk).2)⟩
        obtain ⟨cs, fz, hx⟩ := (hot k hs).1
        rw [hx] at ho
        injection ho with ho
        rw [← ho]
        rfl
  case done =>
    rintro D fs W hD hfs hNW hDm
    have HDM := Lib.hid hDm
    have HNW := Lib.hid hNW
    have HSM := Lib.hid (same_live (HTe.out.new hNW) (HUe.out.new hNW) (by omega) (by omega) (by have := HEL.out; omega) (by rw [HCC.out]))
    clear hNW hDm hfs
    dsimp only
    go_wp2_with fail
    refine HSM.out.mono ?_
    rintro e W2 ⟨rfl, hN2⟩
    have HN2 : Hid (New w W2) := Lib.hid (HNe.out.tr (HNW.out.tr hN2))
    have HM2 := Lib.hid ((Marks.cons (Marks.nil we.heap.size W) (fun _ h => by cases h) hD HDM.out).new hN2)
    clear hN2 HSM
    go_wp2_with fail
    refine leaves_marks [D] W2 HM2.out (fun W' hS => ⟨.bool true, by simp [results, Try.results7, go_sem], rfl, HN2.out.trans (hS.below.mono HNe.out.size)⟩)
theorem back_law {v1 v2 : Value} {w : World} (h1 : ∃ x : Sl, v1 = .slice x.A x.n x.c ∧ x.Good w) (h2 : ∃ x : Sl, v2 = .slice x.A x.n x.c ∧ x.Good w) :
    Calls Try.prog 7 #[v1, v2] w fun e w' => e = .returned (.bool true) ∧ Below w.heap.size w w' := by
  obtain ⟨x, rfl, hx⟩ := h1
  obtain ⟨y, rfl, hy⟩ := h2
  exact back_walk x y hx hy
end Go.Proofs.Ytfhinmjpokollaa
