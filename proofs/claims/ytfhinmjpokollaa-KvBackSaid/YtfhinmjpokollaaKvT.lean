/- KvPlays, as its statement's row wants it. No condition but the bound on what is read. -/
import Derived.Test.YtfhinmjpokollaaKvS
import Derived.Test.YtfhinmjpokollaaKvD
namespace Go.Proofs.Ytfhinmjpokollaa
set_option linter.unusedVariables false
set_option linter.unusedSimpArgs false
set_option linter.constructorNameAsVariable false
open Go.RowKit Go.Maps Go.Sort

theorem rd_not_map {q : Nat → Prop} {w : World} {s n : Nat} {A : Option Addr} {xs : List Value} {P : Program} {kt : TypeId} {b m : Nat} {f : Lit → Option Value} (h : Rd q w s A n xs) (hM : MapAt w P kt b m f) (hs : 0 < s) : Rd (fun k => q k ∧ k ≠ b) w s A n xs := by
  refine ⟨h.1, fun hn => ?_⟩
  obtain ⟨ad, e, hp, hb, hc⟩ := h.2 hn
  refine ⟨ad, e, ⟨hp, fun hab => ?_⟩, hb, hc⟩
  have hl : 0 < xs.length := by rw [h.1]; exact Nat.mul_pos hn hs
  have h0 := hc 0 _ (List.getElem?_eq_getElem hl)
  obtain ⟨D, ⟨es, clock, hx, _⟩, _⟩ := hM
  have hx' : w.heap[(ad.add 0).block]? = some (.map es clock) := by rw [add_block, hab]; exact hx
  simp [World.cell?, hx'] at h0
theorem RTb.frb {w w' : World} {A : Option Addr} {n : Nat} {L : List Ch} {P : Program} {kt : TypeId} {b m : Nat} {f : Lit → Option Value} (h : RTb w A n L) (hM : MapAt w P kt b m f) (hF : Fr (fun k => k = b) w w') : RTb w' A n L := by
  have hr : ∀ {s n : Nat} {A : Option Addr} {xs : List Value}, 0 < s → Rd (fun k => k < w.heap.size) w s A n xs → Rd (fun k => k < w'.heap.size) w' s A n xs := fun hs h =>
    rd_szs ((rd_not_map h hM hs).fr hF (fun k hk he => hk.2 he))
  exact ⟨hr (by decide) h.rd, h.len, fun c hc => ⟨⟨hr (by decide) (h.el c hc).k.rd, (h.el c hc).k.byt⟩, ⟨hr (by decide) (h.el c hc).v.rd, (h.el c hc).v.byt⟩⟩⟩
theorem TbIn.mapAt {X : Nat → Prop} {w : World} {base g b m : Nat} {E : Tab} (h : TbIn X w base g b m E) : ∃ f, MapAt w Try.prog 9 b m f := by
  obtain ⟨f, hm, _⟩ := h.map
  exact ⟨f, hm⟩
/-- What both find. -/
theorem both_find {w : World} {A : Option Addr} {n : Nat} {T : List Ch} {E : Tab} {k : List Int} (hT : RTb w A n T) (hc : cl T = sct (cont E)) (hK : Kn (cont E)) :
    ∃ (B : Option Addr) (m d : Nat), oval (rfind T k) = .slice B m d ∧ (rfind T k).isSome = (E.lookup k).isSome ∧ Rd (fun b => b < w.heap.size) w 1 B m (u8s (tval E k).xs) ∧ Byt (tval E k).xs := by
  have h := find_same hc hK k
  cases hr : rfind T k with
  | none =>
    rw [hr] at h
    cases hl : E.lookup k with
    | some v => rw [hl] at h; cases h
    | none =>
      unfold tval
      rw [hl]
      exact ⟨none, 0, 0, rfl, rfl, Rd.nil, fun x hx => by cases hx⟩
  | some v =>
    rw [hr] at h
    cases hl : E.lookup k with
    | none => rw [hl] at h; cases h
    | some u =>
      rw [hl] at h
      injection h with h
      unfold tval
      rw [hl]
      unfold rfind at hr
      obtain ⟨c, hc, hcv⟩ := Option.map_eq_some_iff.1 hr
      have hm := hT.el c (List.mem_of_find?_eq_some hc)
      subst hcv
      refine ⟨c.v.A, c.v.n, c.v.c, rfl, rfl, ?_, ?_⟩
      · show Rd _ w 1 c.v.A c.v.n (u8s u.xs)
        rw [← h]
        exact hm.v.rd
      · show Byt u.xs
        rw [← h]
        exact hm.v.byt
theorem kn_tb {X : Nat → Prop} {w : World} {base g b m : Nat} {E : Tab} (h : TbIn X w base g b m E) : Kn (cont E) := kn_cont h.nd (fun e he => (h.el e he).1)
/-- What stands behind some batches. -/
structure PlI (w : World) (g b j : Nat) (A : Option Addr) (n : Nat) (wr : World) : Prop where
  new : New w wr
  gb : w.heap.size ≤ g ∧ w.heap.size ≤ b
  st : ∃ (X : Nat → Prop) (mm : Nat) (E : Tab) (T : List Ch), TbIn X wr w.heap.size g b mm E ∧ RTb wr A n T ∧ (∀ c ∈ T, c.k.n ≤ 16 ∧ c.v.n ≤ 16384) ∧ cl T = sct (cont E) ∧ mm ≤ 600 * j ∧ E.length ≤ 600 * j
theorem doCs_le (T : CT) (L : List Ch) : (doCs T L).length ≤ T.length + L.length := by
  unfold doCs
  induction L generalizing T with
  | nil => simp
  | cons c L ih =>
    rw [List.foldl_cons, List.length_cons]
    have := ih (doC T c)
    have := doC_le T c
    omega
theorem rdo_mem (C : List Ch) (L : List Ch) : ∀ x ∈ rdo L C, x ∈ L ∨ x ∈ C := by
  unfold rdo
  induction C generalizing L with
  | nil => intro x hx; exact .inl hx
  | cons c C ih =>
    intro x hx
    rw [List.foldl_cons] at hx
    rcases ih _ x hx with h | h
    · rcases rapp_mem geS c L x h with h | h
      · exact .inl h
      · exact .inr (by rw [h]; exact List.mem_cons_self ..)
    · exact .inr (List.mem_cons_of_mem _ h)
set_option maxHeartbeats 8000000 in
set_option maxRecDepth 100000 in
theorem plays_law {v : Value} {w : World} (h : ∃ (A : Option Addr) (n c : Nat) (L : List Sl), v = .slice A n c ∧ n ≤ maxLen ∧ L.length = n ∧ Rd (fun b => b < w.heap.size) w 1 A n (L.flatMap Sl.cells) ∧ ∀ a ∈ L, a.Good w) :
    Calls Try.prog 3 #[v] w fun e w' => e = .returned (.bool true) ∧ Below w.heap.size w w' := by
  obtain ⟨A, n, c, L, rfl, hn, hL, hR, hG⟩ := h
  have HL := Lib.hid hL
  have HR := Lib.hid hR
  have HG := Lib.hid hG
  unfold maxLen at hn
  clear hL hR hG
  go_enter Try.func3, Try.ntmps3
  go_wp2_with fail
  refine (alive_any w).mono ?_
  rintro e w0 ⟨rfl, hN0⟩
  have HN0 := Lib.hid hN0
  clear hN0
  by_cases h20 : 20 < n
  · go_wp2_with fail
    go_ret
    exact ⟨rfl, HN0.out⟩
  go_wp2_with fail
  refine (new_any w.heap.size w0 HN0.out.size).mono ?_
  rintro e w1 ⟨g, b, rfl, hT1, hN1, hg1, hb1⟩
  have HP : Hid (PlI w g b 0 none 0 w1) := Lib.hid ⟨HN0.out.tr hN1, ⟨Nat.le_trans HN0.out.size hg1, Nat.le_trans HN0.out.size hb1⟩, ⟨_, _, _, _, hT1, RTb.nil _, (fun c h => nomatch h), by simp [cl, sct, cont], Nat.zero_le _, Nat.zero_le _⟩⟩
  clear hT1 hN1 hg1 hb1 HN0
  go_wp2_with fail
  go_loopw [4, 24] (fun s i wr => ∃ (j n' : Nat) (A' : Option Addr) (c' : Nat), j ≤ n ∧ i = .int .i64 j ∧ s = .slice A' n' c' ∧ Hid (PlI w g b j A' n' wr)) (fun s i _ => n - (intOf i).toNat)
  case atStart => exact ⟨0, 0, none, 0, Nat.zero_le _, rfl, rfl, HP⟩
  case round =>
    obtain ⟨j, n', A', c', hj, rfl, rfl, HI⟩ := hrel
    clear HP
    obtain ⟨X, mm, E, T, hTB, hRT, hsm, hct, hmm, hE⟩ := HI.out.st
    have HTB := Lib.hid hTB
    have HRT := Lib.hid hRT
    have HSM := Lib.hid hsm
    have HCT := Lib.hid hct
    clear hTB hRT hsm hct
    by_cases hlt : j < n
    · obtain ⟨gA, o, hl, rfl, -, -, hrg⟩ := rd_row (size := 1) (f := Sl.cells) (L := L) (fun _ => rfl) (by omega) (HI.out.new.rd HR.out) hlt
      rw [Nat.mul_one] at hrg
      have c0 : wr.cell? ⟨gA, o + j, none⟩ = some (.slice L[j].A L[j].n L[j].c) := hrg 0 _ rfl
      have hgood := HG.out L[j] (List.getElem_mem _)
      generalize L[j] = x at c0 hgood
      obtain ⟨xA, xn, xc, xL⟩ := x
      dsimp only at c0
      have HGD := Lib.hid hgood
      have HGW := Lib.hid (hgood.new HI.out.new)
      have hj0 : (0 : Int) ≤ (j : Int) := by omega
      have hjn : (j : Int) < (n : Int) := by omega
      have hxm : xn ≤ 9223372036854775807 := by have := hgood.nn; unfold maxLen at this; exact this
      clear hrg hgood hl
      go_wp2_with fail
      refine (long_any xA xn xc xL wr HGW.out.tb HGD.out.nn (fun c hc => ⟨(HGD.out.gd c hc).kn, (HGD.out.gd c hc).vn⟩)).mono ?_
      rintro e w2 ⟨⟨bl, rfl, hbl⟩, hN2⟩
      have HN2 := Lib.hid hN2
      have HBL := Lib.hid hbl
      clear hN2 hbl
      cases bl
      rotate_left
      · go_wp2_with fail
        go_ret
        exact ⟨rfl, HI.out.new.tr HN2.out⟩
      by_cases h4 : 40 < xn ∧ xn ≤ 600
      · obtain ⟨h4, h6⟩ := h4
        have hd4 : decide ((40 : Int) < (xn : Int)) = true := decide_eq_true (by omega)
        have hd6 : decide ((xn : Int) ≤ 600) = true := decide_eq_true (by omega)
        go_wp2_with fail
        go_ret
        exact ⟨rfl, HI.out.new.tr HN2.out⟩
      have hbs := HBL.out rfl
      have hx7 : xn ≤ 700 := by have := hbs.1; rw [HGD.out.tb.len] at this; exact this
      have HSZ : Hid (∀ c ∈ xL, c.k.n ≤ 20000 ∧ c.v.n ≤ 20000) := Lib.hid (fun c hc => by have := chSum_mem hc; have := hbs.2; omega)
      clear hbs HBL
      have hgo : (40 < xn → ¬ xn ≤ 600) := fun h1 h2 => h4 ⟨h1, h2⟩
      clear h4
      have hxl : xL.length = xn := HGD.out.tb.len
      by_cases hok : chsOk xL = true
      · have hsp := chsOk_spec hok
        have h40 : xn ≤ 40 := by rw [hxl] at hsp; omega
        have HSP := Lib.hid hsp
        have HOK := Lib.hid hok
        have HXL := Lib.hid hxl
        clear hgo hsp hok hxl
        have hd4 : decide ((40 : Int) < (xn : Int)) = false := decide_eq_false (by omega)
        go_wp2_with fail
        refine (copy_any (HTB.out.new HN2.out) (Nat.le_trans HI.out.new.size HN2.out.size)).mono ?_
        rintro e w3 ⟨g3, b3, rfl, hT3, hN3, hg3, hb3⟩
        have HN3 : Hid (New wr w3) := Lib.hid (HN2.out.tr hN3)
        clear hT3 hN3 hg3 hb3
        go_wp2_with fail
        refine (apply_any (P := fun k => k < w.heap.size) (HTB.out.new HN3.out) xA xn xc xL ((HI.out.new.tr HN3.out).rd HGD.out.tb.rd) HXL.out (fun c hc => (HGD.out.tb.el c hc).new (HI.out.new.tr HN3.out)) (fun k hk => by have := HI.out.gb.2; omega) HOK.out (by omega)).mono ?_
        rintro e w4 ⟨rfl, X4, E4, hT4, hc4, hF4, -⟩
        have HT4 := Lib.hid hT4
        have HC4 := Lib.hid hc4
        have HR4 : Hid (RTb w4 A' n' T) := Lib.hid (by
          obtain ⟨f, hM⟩ := (HTB.out.new HN3.out).mapAt
          exact (HRT.out.new HN3.out).frb hM hF4)
        have HN4 : Hid (New w w4) := Lib.hid ((HI.out.new.tr HN3.out).fr hF4 (fun k hk => by have := HI.out.gb.2; omega))
        clear hT4 hc4 hF4
        go_wp2_with fail
        refine (doc_any xA xn xc xL w4 (HN4.out.rd HGD.out.tb.rd) HXL.out (by omega)).mono ?_
        rintro e w5 ⟨⟨A5, c5, rfl, hO5⟩, hN5⟩
        have HD5 : Hid (RTb w5 A5 xn xL) := Lib.hid ⟨rd_szs (Rd.own hO5 rfl), HXL.out, fun c hc => Ch.In.szs ((HGD.out.tb.el c hc).new (HN4.out.tr hN5))⟩
        have HN5 := Lib.hid hN5
        clear hO5 hN5
        go_wp2_with fail
        refine (rright_any A5 xn c5 xL w5 HD5.out.rd HXL.out (by omega) (fun c hc => by have := HSZ.out c hc; unfold maxLen; omega)).mono ?_
        rintro e w5' ⟨rfl, rfl⟩
        rw [HOK.out]
        go_wp2_with fail
        have hn' : n' ≤ 600 * j := by
          have := congrArg List.length HCT.out
          unfold cl at this
          rw [List.length_map, (sct_perm _).length_eq, cont_len, HRT.out.len] at this
          omega
        refine (rdo_any A' n' c' T A5 xn c5 xL w5 (HR4.out.new HN5.out) HD5.out (by omega)).mono ?_
        rintro e w6 ⟨⟨A6, n6, c6, rfl, hR6⟩, hN6⟩
        have HR6 := Lib.hid hR6
        have HN6 : Hid (New w4 w6) := Lib.hid (HN5.out.tr hN6)
        clear hR6 hN6
        go_wp2_with fail
        refine (rights_any xA xn xc xL w6 ((HN4.out.tr HN6.out).rd HGD.out.tb.rd) HXL.out (by omega) (fun c hc => by have := HSZ.out c hc; unfold maxLen; omega)).mono ?_
        rintro e w7 ⟨rfl, hN7⟩
        rw [HOK.out]
        have hsct := rdo_sct (L := T) (T := cont E) xL HCT.out (kn_tb HTB.out) (fun c hc => (HGD.out.tb.el c hc).k.byt)
        rw [← HC4.out] at hsct
        have HSCT := Lib.hid hsct
        have HT7 : Hid (TbIn X4 w7 w.heap.size g b (mm + xn) E4) := Lib.hid (HT4.out.new (HN6.out.tr hN7))
        have HR7 : Hid (RTb w7 A6 n6 (rdo T xL)) := Lib.hid (HR6.out.new hN7)
        have HN7 : Hid (New w w7) := Lib.hid (HN4.out.tr (HN6.out.tr hN7))
        have HG7 := Lib.hid (HGD.out.new HN7.out)
        have hn6 : n6 ≤ 600 * j + xn := by
          have h1 := HR7.out.len
          have h2 := rdo_len T xL
          rw [HRT.out.len, HXL.out] at h2
          omega
        have HSM7 : Hid (∀ c ∈ rdo T xL, c.k.n ≤ 16 ∧ c.v.n ≤ 16384) := Lib.hid (fun c hc => by
          rcases rdo_mem xL T c hc with h | h
          · exact HSM.out c h
          · have := HSP.out.2.2 c h; omega)
        have hE4 : E4.length ≤ 600 * j + xn := by
          have h1 := congrArg List.length HC4.out
          have h2 := doCs_le (cont E) xL
          rw [cont_len] at h1 h2
          rw [HXL.out] at h2
          omega
        have HPN : Hid (PlI w g b (j + 1) A6 n6 w7) := Lib.hid ⟨HN7.out, HI.out.gb, ⟨X4, mm + xn, E4, rdo T xL, HT7.out, HR7.out, HSM7.out, HSCT.out.1, by omega, by omega⟩⟩
        clear hN7 hsct
        go_wp2_with fail
        go_loopw [75] (fun i wr => ∃ (k : Nat), k ≤ xn ∧ i = .int .i64 k ∧ Hid (New w7 wr)) (fun i _ => xn - (intOf i).toNat)
        case atStart => exact ⟨0, Nat.zero_le _, rfl, Lib.hid (New.refl _)⟩
        case round =>
          obtain ⟨k, hk, rfl, HNr⟩ := hrel
          by_cases hkl : k < xn
          · as_aux_lemma =>
              obtain ⟨gC, oC, hlC, rfl, -, -, hrC⟩ := rd_row (f := Ch.cells) (L := xL) (fun _ => rfl) (by omega) (HNr.out.rd HG7.out.tb.rd) hkl
              have v0 : wr.cell? ⟨gC, oC + k * 3, none⟩ = some (.slice xL[k].k.A xL[k].k.n xL[k].k.c) := hrC 0 _ rfl
              have v1 : wr.cell? ⟨gC, oC + k * 3 + 1, none⟩ = some (.slice xL[k].v.A xL[k].v.n xL[k].v.c) := hrC 1 _ rfl
              have v2 : wr.cell? ⟨gC, oC + k * 3 + 2, none⟩ = some (.bool xL[k].d) := hrC 2 _ rfl
              have hin := (HG7.out.tb.el xL[k] (List.getElem_mem _)).new HNr.out
              have hkn := (HSZ.out xL[k] (List.getElem_mem _)).1
              generalize xL[k] = y at v0 v1 v2 hin hkn
              obtain ⟨⟨kA, kn, kc, ks⟩, ⟨vA, vn, vc, vs⟩, dd⟩ := y
              dsimp only at v0 v1 v2 hkn
              obtain ⟨wa, hwa⟩ : ∃ wa : World, wa = wr.alloc (.cells #[.slice kA kn kc, .slice vA vn vc, .bool dd] 41) := ⟨_, rfl⟩
              have HNa : Hid (New wr wa) := Lib.hid (by rw [hwa]; exact New.al (New.refl _) _)
              have HBa : Hid (Blk wa wr.heap.size 41 #[.slice kA kn kc, .slice vA vn vc, .bool dd]) := Lib.hid (by rw [hwa]; exact Blk.new _ _ _)
              have HIN := Lib.hid hin
              have hk0 : (0 : Int) ≤ (k : Int) := by omega
              have hkn2 : (k : Int) < (xn : Int) := by omega
              obtain ⟨B2, m2, d2, hov, his, hrd2, hby2⟩ := both_find (k := ks) HR7.out HSCT.out.1 HSCT.out.2
              have HOV := Lib.hid hov
              have HIS := Lib.hid his
              have HRD2 := Lib.hid hrd2
              have HBY2 := Lib.hid hby2
              clear hin hrC hlC hov his hrd2 hby2
              go_upto_region 24 with fail
              rw [← hwa]
              have e0 : wa.cell? ⟨wr.heap.size, 0, none⟩ = some (.slice kA kn kc) := HBa.out.cell 0
              clear hwa v0 v1 v2
              go_wp2_with fail
              refine (get_any (HT7.out.new (HNr.out.tr HNa.out)) kA kn kc ks (HNa.out.rd HIN.out.k.rd) HIN.out.k.byt (by omega)).mono ?_
              rintro e wb ⟨A8, c8, rfl, hO8, hN8⟩
              have HO8 := Lib.hid hO8
              have HN8 : Hid (New wr wb) := Lib.hid (HNa.out.tr hN8)
              have e0 : wb.cell? ⟨wr.heap.size, 0, none⟩ = some (.slice kA kn kc) := hN8.cell_ e0
              clear hO8 hN8
              obtain ⟨tn, htn⟩ : ∃ tn, tn = (tval E4 ks).n := ⟨_, rfl⟩
              obtain ⟨is, hiss⟩ : ∃ is, is = (E4.lookup ks).isSome := ⟨_, rfl⟩
              rw [← htn] at HO8 ⊢
              rw [← hiss]
              have HISS := Lib.hid hiss
              clear htn hiss
              go_wp2_with fail
              refine (rget_any A6 n6 c6 (rdo T xL) kA kn kc ks wb (HR7.out.new (HNr.out.tr HN8.out)).rd HR7.out.len (by omega) (HR7.out.new (HNr.out.tr HN8.out)).el (HN8.out.rd HIN.out.k.rd) HIN.out.k.byt).mono ?_
              rintro e wc ⟨rfl, hN9⟩
              have HN9 : Hid (New wb wc) := Lib.hid hN9
              clear hN9
              rw [HOV.out, HIS.out, ← HISS.out]
              have HBT := Lib.hid (bytes_any A8 B2 tn m2 c8 d2 (tval E4 ks).xs (tval E4 ks).xs wc (HN9.out.rd (Rd.own HO8.out rfl)) ((HNr.out.tr (HN8.out.tr HN9.out)).rd HRD2.out) HBY2.out HBY2.out)
              have hts : decide ((tval E4 ks).xs = (tval E4 ks).xs) = true := by simp
              rw [hts] at HBT
              clear hts e0
              cases is
              all_goals
                go_wp2_with fail
                refine HBT.out.mono ?_
                rintro e wd ⟨rfl, rfl⟩
                go_wp2_with fail
                go_roundw
                case rel => exact ⟨k + 1, by omega, by go_num, Lib.hid (HNr.out.tr (HN8.out.tr HN9.out))⟩
                case measure => simp [intOf]; omega
          · as_aux_lemma =>
              obtain rfl : k = xn := by omega
              go_wp2_with fail
              go_roundw
              case rel => exact ⟨j + 1, n6, A6, c6, by omega, by go_num, rfl, Lib.hid ⟨HN7.out.tr HNr.out, HPN.out.gb, by
                obtain ⟨X5, m5, E5, T5, h1, h2, h3, h4, h5, h6⟩ := HPN.out.st
                exact ⟨X5, m5, E5, T5, h1.new HNr.out, h2.new HNr.out, h3, h4, h5, h6⟩⟩⟩
              case measure => simp [intOf]; omega
      · have hok : chsOk xL = false := by simpa using hok
        have HOK := Lib.hid hok
        have HXL := Lib.hid hxl
        clear hok hxl
        rcases (by omega : xn ≤ 40 ∨ 600 < xn) with h4 | h4
        · have hd4 : decide ((40 : Int) < (xn : Int)) = false := decide_eq_false (by omega)
          clear hgo
          go_wp2_with fail
          refine (copy_any (HTB.out.new HN2.out) (Nat.le_trans HI.out.new.size HN2.out.size)).mono ?_
          rintro e w3 ⟨g3, b3, rfl, hT3, hN3, hg3, hb3⟩
          have HT3 := Lib.hid hT3
          have HN3 : Hid (New wr w3) := Lib.hid (HN2.out.tr hN3)
          clear hT3 hN3 hg3 hb3
          go_wp2_with fail
          refine (apply_bad g xA xn xc xL w3 ((HI.out.new.tr HN3.out).rd HGD.out.tb.rd) HXL.out (by omega) (fun c hc => by have := HSZ.out c hc; unfold maxLen; omega) HOK.out).mono ?_
          rintro e w4 ⟨rfl, hN4⟩
          have HT4 := Lib.hid (HT3.out.new hN4)
          have HN4 : Hid (New wr w4) := Lib.hid (HN3.out.tr hN4)
          clear hN4
          go_wp2_with fail
          refine (doc_any xA xn xc xL w4 ((HI.out.new.tr HN4.out).rd HGD.out.tb.rd) HXL.out (by omega)).mono ?_
          rintro e w5 ⟨⟨A5, c5, rfl, hO5⟩, hN5⟩
          have HD5 : Hid (RTb w5 A5 xn xL) := Lib.hid ⟨rd_szs (Rd.own hO5 rfl), HXL.out, fun c hc => Ch.In.szs ((HGD.out.tb.el c hc).new ((HI.out.new.tr HN4.out).tr hN5))⟩
          have HT5 := Lib.hid (HT4.out.new hN5)
          have HN5 : Hid (New wr w5) := Lib.hid (HN4.out.tr hN5)
          clear hO5 hN5
          go_wp2_with fail
          refine (rright_any A5 xn c5 xL w5 HD5.out.rd HXL.out (by omega) (fun c hc => by have := HSZ.out c hc; unfold maxLen; omega)).mono ?_
          rintro e w5' ⟨rfl, rfl⟩
          rw [HOK.out]
          go_wp2_with fail
          refine (is_some 2 2 w5 (by omega)).mono ?_
          rintro e w5' ⟨rfl, rfl⟩
          go_wp2_with fail
          refine (same_live (HTB.out.new HN5.out) HT5.out (by omega) (by omega) (by omega) (List.Perm.refl _)).mono ?_
          rintro e w6 ⟨rfl, hN6⟩
          have HN6 : Hid (New wr w6) := Lib.hid (HN5.out.tr hN6)
          clear hN6
          go_wp2_with fail
          refine (rights_any xA xn xc xL w6 ((HI.out.new.tr HN6.out).rd HGD.out.tb.rd) HXL.out (by omega) (fun c hc => by have := HSZ.out c hc; unfold maxLen; omega)).mono ?_
          rintro e w7 ⟨rfl, hN7⟩
          rw [HOK.out]
          have HN7 : Hid (New wr w7) := Lib.hid (HN6.out.tr hN7)
          clear hN7
          go_wp2_with fail
          go_roundw
          case rel => exact ⟨j + 1, n', A', c', by omega, by go_num, rfl, Lib.hid ⟨HI.out.new.tr HN7.out, HI.out.gb, ⟨X, mm, E, T, HTB.out.new HN7.out, HRT.out.new HN7.out, HSM.out, HCT.out, by omega, by omega⟩⟩⟩
          case measure => simp [intOf]; omega
        · have hd4 : decide ((40 : Int) < (xn : Int)) = true := decide_eq_true (by omega)
          have hd6 : decide ((xn : Int) ≤ 600) = false := decide_eq_false (by omega)
          clear hgo
          go_wp2_with fail
          refine (copy_any (HTB.out.new HN2.out) (Nat.le_trans HI.out.new.size HN2.out.size)).mono ?_
          rintro e w3 ⟨g3, b3, rfl, hT3, hN3, hg3, hb3⟩
          have HT3 := Lib.hid hT3
          have HN3 : Hid (New wr w3) := Lib.hid (HN2.out.tr hN3)
          clear hT3 hN3 hg3 hb3
          go_wp2_with fail
          refine (apply_bad g xA xn xc xL w3 ((HI.out.new.tr HN3.out).rd HGD.out.tb.rd) HXL.out (by omega) (fun c hc => by have := HSZ.out c hc; unfold maxLen; omega) HOK.out).mono ?_
          rintro e w4 ⟨rfl, hN4⟩
          have HT4 := Lib.hid (HT3.out.new hN4)
          have HN4 : Hid (New wr w4) := Lib.hid (HN3.out.tr hN4)
          clear hN4
          go_wp2_with fail
          refine (doc_any xA xn xc xL w4 ((HI.out.new.tr HN4.out).rd HGD.out.tb.rd) HXL.out (by omega)).mono ?_
          rintro e w5 ⟨⟨A5, c5, rfl, hO5⟩, hN5⟩
          have HD5 : Hid (RTb w5 A5 xn xL) := Lib.hid ⟨rd_szs (Rd.own hO5 rfl), HXL.out, fun c hc => Ch.In.szs ((HGD.out.tb.el c hc).new ((HI.out.new.tr HN4.out).tr hN5))⟩
          have HT5 := Lib.hid (HT4.out.new hN5)
          have HN5 : Hid (New wr w5) := Lib.hid (HN4.out.tr hN5)
          clear hO5 hN5
          go_wp2_with fail
          refine (rright_any A5 xn c5 xL w5 HD5.out.rd HXL.out (by omega) (fun c hc => by have := HSZ.out c hc; unfold maxLen; omega)).mono ?_
          rintro e w5' ⟨rfl, rfl⟩
          rw [HOK.out]
          go_wp2_with fail
          refine (is_some 2 2 w5 (by omega)).mono ?_
          rintro e w5' ⟨rfl, rfl⟩
          go_wp2_with fail
          refine (same_live (HTB.out.new HN5.out) HT5.out (by omega) (by omega) (by omega) (List.Perm.refl _)).mono ?_
          rintro e w6 ⟨rfl, hN6⟩
          have HN6 : Hid (New wr w6) := Lib.hid (HN5.out.tr hN6)
          clear hN6
          go_wp2_with fail
          refine (rights_any xA xn xc xL w6 ((HI.out.new.tr HN6.out).rd HGD.out.tb.rd) HXL.out (by omega) (fun c hc => by have := HSZ.out c hc; unfold maxLen; omega)).mono ?_
          rintro e w7 ⟨rfl, hN7⟩
          rw [HOK.out]
          have HN7 : Hid (New wr w7) := Lib.hid (HN6.out.tr hN7)
          clear hN7
          go_wp2_with fail
          go_roundw
          case rel => exact ⟨j + 1, n', A', c', by omega, by go_num, rfl, Lib.hid ⟨HI.out.new.tr HN7.out, HI.out.gb, ⟨X, mm, E, T, HTB.out.new HN7.out, HRT.out.new HN7.out, HSM.out, HCT.out, by omega, by omega⟩⟩⟩
          case measure => simp [intOf]; omega
    · obtain rfl : j = n := by omega
      clear HR HG
      go_wp2_with fail
      have hlen := congrArg List.length HCT.out
      refine (is_any HTB.out (by omega) (by omega) A' n' c' T HRT.out HSM.out HCT.out).mono ?_
      rintro e w3 ⟨rfl, hN3⟩
      have HN3 := Lib.hid hN3
      clear hN3 hlen
      go_wp2_with fail
      go_ret
      exact ⟨rfl, HI.out.new.tr HN3.out⟩
end Go.Proofs.Ytfhinmjpokollaa
