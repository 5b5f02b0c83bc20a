/- CachePlays' walk. -/
import Derived.Test.YtpomcnfifhfffaaCsX
import Derived.Test.YtpomcnfifhfffaaHeld
import Derived.Deep.CutBlock
import Derived.Deep.DeepCutAuto
namespace Go.Proofs.Ytpomcnfifhfffaa
open Go.RowKit Go.Maps

theorem elA : ElemOf Try.prog 22 26 5 72 := ElemOf.mk' (z := .agg #[.int .u64 0, .int .u64 0, .slice none 0 0, .slice none 0 0, .bool false]) Try.underlying22 (by kernel_rfl) rfl (by decide)
set_option maxHeartbeats 8000000 in
set_option maxRecDepth 100000 in
theorem plays_walk (A1 : Option Addr) (n1 c1 : Nat) (L : List AB) (x : AB) (w : World) (hL : L.length = n1) (hn : n1 ≤ maxLen) (hR : Rd (fun b => b < w.heap.size) w 5 A1 n1 ((L.map AB.av).flatMap AV.cells)) (hg : ∀ a ∈ L, a.Good w) (hx : x.Good w) :
    Calls Try.prog 4 #[.slice A1 n1 c1, .agg x.av.cells.toArray] w fun e w' => e = .returned (.bool true) ∧ New w w' := by
  have HR := Lib.hid hR
  have HMX := Lib.hid hn
  have HL := Lib.hid hL
  have HG := Lib.hid hg
  have HX' := Lib.hid hx
  obtain ⟨⟨i, q, A, n, c, B, k, d, dr⟩, rq, rp⟩ := x
  simp only [AV.cells]
  clear hR hL hg hx hn
  go_enter Try.func4, Try.ntmps4
  go_wp2_with fail
  obtain ⟨w0, hw0⟩ : ∃ w0 : World, w0 = w.alloc (.cells #[.int .u64 i, .int .u64 q, .slice A n c, .slice B k d, .bool dr] 26) := ⟨_, rfl⟩
  have HN0 : Hid (New w w0) := Lib.hid (by rw [hw0]; exact New.al (New.refl _) _)
  have HB0 : Hid (Blk w0 w.heap.size 26 #[.int .u64 i, .int .u64 q, .slice A n c, .slice B k d, .bool dr]) := Lib.hid (by rw [hw0]; exact Blk.new _ _ _)
  have hsz0 : w0.heap.size = w.heap.size + 1 := by rw [hw0]; simp
  rw [← hw0]
  clear hw0
  refine (alive_any w0).mono ?_
  rintro e w1 ⟨rfl, hN1⟩
  have HN1 : Hid (New w0 w1) := Lib.hid hN1
  clear hN1
  go_wp2_with fail
  refine (long_law A1 n1 c1 (L.map AB.av) w1 ((HN0.out.tr HN1.out).rd HR.out) (by simp [HL.out]) HMX.out (fun a ha => by obtain ⟨y, hy, rfl⟩ := List.mem_map.1 ha; exact ⟨(HG.out y hy).nq, (HG.out y hy).np⟩)).mono ?_
  rintro e w2 ⟨⟨b, rfl, hbl⟩, hN2⟩
  have HBL := Lib.hid hbl
  clear hbl
  have HN2 : Hid (New w0 w2) := Lib.hid (HN1.out.tr hN2)
  clear hN2
  have hsz2 := HN2.out.size
  rcases b with _ | _
  rotate_left
  · go_wp2_with fail
    go_ret
    exact ⟨rfl, HN0.out.tr HN2.out⟩
  have hn : n1 ≤ 250 := (HBL.out rfl).1
  have HLB : Hid (∀ a ∈ L, a.av.n ≤ 20000 ∧ a.av.k ≤ 20000) := Lib.hid (fun a ha => (HBL.out rfl).2 a.av (List.mem_map_of_mem ha))
  clear HBL HMX
  go_wp2_with fail
  refine (cnew_any w2.heap.size w2 (Nat.le_refl _)).mono ?_
  rintro e w3 ⟨rfl, hC3, hN3⟩
  have HN3 : Hid (New w0 w3) := Lib.hid (HN2.out.tr hN3)
  have HC3 := Lib.hid hC3
  clear hC3 hN3
  go_wp2_with fail
  obtain ⟨g, hg⟩ : ∃ g, g = w2.heap.size + 1 := ⟨_, rfl⟩
  obtain ⟨bm, hbm⟩ : ∃ bm, bm = w2.heap.size := ⟨_, rfl⟩
  have HI3 : Hid (LP w w0 w2.heap.size g bm 0 (.slice none 0 0) w3) := Lib.hid ⟨_, _, _, _, _, [], none, 0, 0, rfl, RdT.nil, rfl, Nat.le_refl _, Nat.le_refl _, (fun y hy => by cases hy), by rw [hg, hbm]; exact HC3.out, MtC.nil, HN3.out⟩
  rw [← hg]
  generalize hbase : w2.heap.size = base at HI3 hsz2 hg hbm
  clear HC3 HN3 HN2 HN1 hg hbm hbase
  go_loopw [6, 24] (fun u i wr => ∃ (j : Nat), j ≤ n1 ∧ i = .int .i64 j ∧ Hid (LP w w0 base g bm j u wr)) (fun _ i _ => n1 - (intOf i).toNat)
  case atStart => exact ⟨0, by omega, rfl, HI3⟩
  case round =>
    obtain ⟨j, hj, rfl, HI⟩ := hrel
    by_cases hlt : j < n1
    · as_aux_lemma =>
        obtain ⟨v, m, f, S, N, G, A2, n2, c2, rfl, hR2, hG2, hn2, hN2, hgd, hC, hM, hN⟩ := HI.out
        obtain ⟨gA, oA, hl, rfl, -, hgl, c0, c1, c2', c3, c4⟩ := rd_av ((HN0.out.tr hN).rd HR.out) (by simp [HL.out]) hlt
        have hl' : j < L.length := by simpa using hl
        simp only [List.getElem_map] at c0 c1 c2' c3 c4
        have ha := HG.out L[j] (List.getElem_mem _)
        have hlb := HLB.out L[j] (List.getElem_mem _)
        generalize L[j] = a at c0 c1 c2' c3 c4 ha hlb
        obtain ⟨⟨ia, qa, Aa, na, ca, Ba, ka, da, dra⟩, rqa, rpa⟩ := a
        dsimp only at c0 c1 c2' c3 c4 hlb
        obtain ⟨hna, hka⟩ := hlb
        have HA := Lib.hid ha
        have HC := Lib.hid hC
        have HM := Lib.hid hM
        have HR2 := Lib.hid hR2
        have HG2 := Lib.hid hG2
        have HGD := Lib.hid hgd
        have HNr : Hid (New w0 wr) := Lib.hid hN
        clear ha hC hM hN hl hl' hgl HI HI3 hR2 hG2 hgd
        rcases dra with _ | _
        · as_aux_lemma =>
          go_upto_region 14 with fail
          obtain ⟨w4, hw4⟩ : ∃ w4 : World, w4 = wr.alloc (.cells #[.int .u64 ia, .int .u64 qa, .slice Aa na ca, .slice Ba ka da, .bool false] 26) := ⟨_, rfl⟩
          have HN4 : Hid (New wr w4) := Lib.hid (by rw [hw4]; exact New.al (New.refl _) _)
          have HB4 : Hid (Blk w4 wr.heap.size 26 #[.int .u64 ia, .int .u64 qa, .slice Aa na ca, .slice Ba ka da, .bool false]) := Lib.hid (by rw [hw4]; exact Blk.new _ _ _)
          have hwz : wr.heap.size < w4.heap.size := HB4.out.lt
          try rw [← hw4]
          clear hw4 c0 c1 c2' c3 c4
          have HNw4 : Hid (New w w4) := Lib.hid ((HN0.out.tr HNr.out).tr HN4.out)
          have i3 : ∀ o : Obj, (w4.alloc o).cell? ⟨wr.heap.size, 3, none⟩ = some (.slice Ba ka da) := fun o => (New.al (New.refl w4) o).cell_ (HB4.out.cell 3)
          go_wp2_with (at_builtin; refine wpList_app elB _ rfl (.tmp 44) (.tmp 46) rfl w4.heap.size (.slice (some ⟨w4.heap.size, 0, none⟩) 0 0) 0 [] rfl (own_lit (Blk.new w4 5 #[]) (Nat.le_refl _)) Ba ka da (u8s rpa) rfl (New.rd (HNw4.out.al _) HA.out.rdp) (u8s_one rpa) (by unfold maxLen; omega) (by omega) (by simp) ?_; intro A5 d5 w5 hO5 hF5 hA5; rw [Nat.zero_add]; rw [Nat.zero_add, List.nil_append] at hO5; rw [Nat.zero_add] at hA5; have HO5 := Lib.hid hO5; have HN5 : Hid (New w4 w5) := Lib.hid ((New.al (New.refl w4) _).fr hF5 (by intro k hk; simp [Value.ownBlock] at hk; omega)); have HA5 := Lib.hid hA5; have hsz5 : w4.heap.size < w5.heap.size := (by have h1 := hF5.size; simp at h1; omega); have hb5 := HN5.out.blk HB4.out; have i0 := hb5.cell 0; have i1 := hb5.cell 1; have i2 := hb5.cell 2; clear hO5 hF5 hA5 hb5)
          have HC5 := Lib.hid (HC.out.new (HN4.out.tr HN5.out))
          have hbt := fun k hk => (HC.out.cb (k := k) hk).2
          have HBT := Lib.hid hbt
          clear hbt
          refine (keep_plays base g v bm m f S N ia qa Aa A5 na ca ka d5 rqa rpa w5 HC5.out HA.out.id HA.out.seq (by omega) (rd_out HA.out.rdq (HNw4.out.tr HN5.out) (by omega)) ((RdB.own HO5.out HA.out.bp).1.imp fun k hk => .inr hk) HA.out.bq HA.out.bp (by omega) (by omega) (kvs G) HM.out).mono ?_
          rintro e w6 ⟨rfl, v6, f6, S6, hC6, hM6, hF6, hAp6⟩
          have hX6 : ∃ xb, (∀ k, (Value.slice A5 ka d5).ownBlock = some k → k = xb) ∧ Apart xb S6 ∧ ¬ Cb g bm v6 S6 xb ∧ w4.heap.size ≤ xb ∧ ¬ IsT 45 w6 xb := by
            rcases hq : A5 with _ | ad
            · refine ⟨w6.heap.size, (fun k hk => by cases hk), Apart.of hC6 (Nat.le_refl _), fun hk => Nat.lt_irrefl _ (hC6.cb hk).2, by have := hF6.size; omega, ?_⟩
              rintro ⟨cs, fz, hb⟩
              have := (Array.getElem?_eq_some_iff.1 hb).1
              omega
            · have hO := HO5.out
              rw [hq] at hO
              rcases hO.2 with ⟨h', _⟩ | ⟨g', cap, cur, h', hb', hh, _⟩
              · cases h'
              · injection h' with h' h2 h3
                injection h' with h'
                subst h'
                have hnC : ¬ Cb g bm v S g' := fun hk => by have := HBT.out g' hk; omega
                have hlt5 : g' < w5.heap.size := (Array.getElem?_eq_some_iff.1 hh).1
                have hh6 : w6.heap[g']? = some (.cells cur 5 (0, 0)) := (hF6.block g' hlt5 hnC).trans hh
                refine ⟨g', (fun k hk => by simp [Value.ownBlock] at hk; omega), hAp6 g' hlt5 (Apart.of HC.out (by omega)), fun hk => hC6.not_B g' hk ⟨_, _, hh6⟩, hb', ?_⟩
                rintro ⟨cs, fz, hb⟩
                rw [hh6] at hb
                injection hb with hb
                injection hb with _ hb
                exact absurd hb (by decide)
          obtain ⟨xb, hx1, hx2, hx3, hx4, hx5⟩ := hX6
          have HB6 := Lib.hid ((HN5.out.blk HB4.out).fr hF6 (fun hk => by have := HBT.out _ hk; omega))
          have hR6 := ((HR2.out.new (HN4.out.tr HN5.out)).fr hF6 (HC5.out.not_T (by decide) (by decide) (by decide)))
          have HR6 := Lib.hid hR6
          have HN6 : Hid (New w0 w6) := Lib.hid ((HNr.out.tr (HN4.out.tr HN5.out)).fr hF6 (fun k hk => by have := (HC5.out.cb hk).1; omega))
          have hO6 : w6.ownsRow xb 5 1 (.slice A5 ka d5) ka (u8s rpa) := own_base (own_fr HO5.out hF6 (fun k hk ho => by have := HBT.out k ho; have := (own_lt HO5.out k hk).1; omega)) (fun k hk => by rw [hx1 k hk]; exact Nat.le_refl _)
          have HLO : Hid (LO w6 xb (.slice A5 ka d5) ka w6) := Lib.hid ⟨Fr.refl _ _, _, hO6⟩
          have HC6 := Lib.hid hC6
          have HM6 := Lib.hid hM6
          have HX1 := Lib.hid hx1
          have HX2 := Lib.hid hx2
          have HX3 := Lib.hid hx3
          have HX5 := Lib.hid hx5
          clear hC6 hM6 hF6 hAp6 hx1 hx2 hx3 hx5 hR6 hO6 HO5 HA5 i0 i1 i2 i3
          go_wp2_with fail
          go_loopw [10, 59] (fun _ i wr => ∃ (t : Nat), t ≤ ka ∧ i = .int .i64 t ∧ Hid (LO w6 xb (.slice A5 ka d5) ka wr)) (fun _ i _ => ka - (intOf i).toNat)
          case atStart => exact ⟨0, by omega, rfl, HLO⟩
          case round =>
            obtain ⟨t, ht, rfl, HT⟩ := hrel
            by_cases htk : t < ka
            · as_aux_lemma =>
              obtain ⟨hFt, ys, hOt⟩ := HT.out
              obtain ⟨gg, cap, hv, -, -⟩ := own_form hOt (by omega)
              injection hv with hv
              subst hv
              have hl : t < ys.length := by have := hOt.1; rw [u8s_len] at this; omega
              have y0 : wr.cell? ⟨gg, t, none⟩ = some (.int .u8 ys[t]) := by rw [hOt.cellAt t (by omega)]; simp [u8s, hl]
              have y1 := hOt.frozenAt t
              have hgx : gg = xb := HX1.out gg (by simp [Value.ownBlock])
              have hst := fun z => (hOt.stored t (.int .u8 z)).1
              have HST : Hid (∀ z, LO w6 xb (.slice (some ⟨gg, 0, none⟩) ka d5) ka (wr.setCell ⟨gg, t, none⟩ (.int .u8 z))) := Lib.hid fun z => ⟨hFt.setCell (p := ⟨gg, t, none⟩) (fun _ => hgx) _, ys.set t z, by have := hst z; rw [show u8s (ys.set t z) = (u8s ys).set t (.int .u8 z) from by simp [u8s, List.map_set]]; exact this⟩
              generalize ys[t] = y at y0
              clear hst hgx hOt hFt HT HLO
              go_wp2_with fail
              go_roundw
              case rel => exact ⟨t + 1, by omega, by go_num, Lib.hid (HST.out _)⟩
              case measure => simp [intOf]; omega
            · as_aux_lemma =>
              obtain rfl : t = ka := by omega
              have hFt := HT.out.1
              have HC7 := Lib.hid (HC6.out.poke HX2.out hFt HX3.out)
              have HR7 := Lib.hid (HR6.out.fr hFt (fun k hk => by subst hk; exact HX5.out))
              have hb7 := HB6.out.fr hFt (by omega)
              have HN7 : Hid (New w0 wr) := Lib.hid (HN6.out.fr hFt (fun k hk => by subst hk; have := (HNr.out.tr HN4.out).size; omega))
              have i0 := hb7.cell 0
              have i1 := hb7.cell 1
              have i2 := hb7.cell 2
              have i3 := hb7.cell 3
              clear hb7 hFt HT HLO
              go_wp2_with fail
              refine (rkeep_any A2 n2 c2 G ⟨⟨ia, qa, rqa, rpa⟩, Aa, na, ca, Ba, t, da⟩ wr HR7.out HG2.out (by omega) (fun y hy => (HGD.out y hy).id) HA.out.id HA.out.seq).mono ?_
              rintro e w8 ⟨⟨A8, c8, rfl, hO8⟩, hN8⟩
              have HLP : Hid (LP w w0 base g bm (j + 1) (.slice A8 (keepG G ⟨⟨ia, qa, rqa, rpa⟩, Aa, na, ca, Ba, t, da⟩).length c8) w8) := Lib.hid ⟨v6, m + 1, f6, S6, N + 1, _, A8, _, c8, rfl, RdT.own hO8 rfl, rfl, by have := keepG_len G ⟨⟨ia, qa, rqa, rpa⟩, Aa, na, ca, Ba, t, da⟩; have := HG2.out; omega, by omega,
                (fun y hy => by
                  rcases keepG_mem hy with h | h
                  · exact HGD.out y h
                  · rw [h]; exact HA.out.gc (by show na ≤ _; omega) (by show t ≤ _; omega)), (HC7.out).new hN8, by rw [kvs_keep]; exact HM6.out, HN7.out.tr hN8⟩
              clear hO8 hN8 i0 i1 i2 i3
              go_wp2_with fail
              go_roundw
              case rel => exact ⟨j + 1, by omega, by go_num, HLP⟩
              case measure => simp [intOf]; omega
        · as_aux_lemma =>
          go_upto_region 11 with fail
          obtain ⟨w4, hw4⟩ : ∃ w4 : World, w4 = wr.alloc (.cells #[.int .u64 ia, .int .u64 qa, .slice Aa na ca, .slice Ba ka da, .bool true] 26) := ⟨_, rfl⟩
          have HN4 : Hid (New wr w4) := Lib.hid (by rw [hw4]; exact New.al (New.refl _) _)
          have HB4 : Hid (Blk w4 wr.heap.size 26 #[.int .u64 ia, .int .u64 qa, .slice Aa na ca, .slice Ba ka da, .bool true]) := Lib.hid (by rw [hw4]; exact Blk.new _ _ _)
          have hwz : wr.heap.size < w4.heap.size := HB4.out.lt
          try rw [← hw4]
          clear hw4 c0 c1 c2' c3 c4
          have HNw4 : Hid (New w w4) := Lib.hid ((HN0.out.tr HNr.out).tr HN4.out)
          have i0 := HB4.out.cell 0
          have HC4 := Lib.hid (HC.out.new HN4.out)
          have HR4 := Lib.hid (HR2.out.new HN4.out)
          obtain ⟨bb, hb1, hb2⟩ : ∃ bb : Bool, decide (0 < cnt (kvs G) ia) = bb ∧ decide ((0 : Int) < (cnt (kvs G) ia : Int)) = bb := by
            by_cases h : 0 < cnt (kvs G) ia
            · exact ⟨true, decide_eq_true h, decide_eq_true (by omega)⟩
            · exact ⟨false, decide_eq_false h, decide_eq_false (by omega)⟩
          have hdp := fun (W : World) (hW : Ca W base g v bm m f S N) => drop_plays base g v bm m f S N ia W hW (kvs G) HM.out
          rw [hb1] at hdp
          have HDP := Lib.hid hdp
          clear hdp
          have hb4 := HB4.out
          cases bb
          all_goals
            go_region_held3 (fun w' => w'.cell? ⟨wr.heap.size, 0, none⟩ = some (.int .u64 ia))
              (first | exact k6 | go_keep)
              (first
                | (go_at_call 14; refine (HDP.out _ (HC4.out.new (by repeat (first | with_reducible exact New.refl _ | with_reducible assumption | with_reducible refine New.dr ?_ | with_reducible refine New.al ?_ _) : New w4 _))).mono ?_; rintro e w6 ⟨rfl, v6, f6, S6, hC6, hM6, hF6⟩; have k6 : w6.cell? ⟨wr.heap.size, 0, none⟩ = some (.int .u64 ia) := (Blk.fr (Blk.drew hb4) hF6 (fun hk => by have := (HC.out.cb hk).2; omega)).cell 0; have HC6 := Lib.hid hC6; have HM6 := Lib.hid hM6; have HR6 : Hid (RdT 45 w6 4 A2 n2 (flatG G)) := Lib.hid ((HR4.out.new ((by repeat (first | with_reducible exact New.refl _ | with_reducible assumption | with_reducible refine New.dr ?_ | with_reducible refine New.al ?_ _) : New w4 _))).fr hF6 ((HC4.out.new (by repeat (first | with_reducible exact New.refl _ | with_reducible assumption | with_reducible refine New.dr ?_ | with_reducible refine New.al ?_ _) : New w4 _)).not_T (by decide) (by decide) (by decide))); have HN6 : Hid (New w0 w6) := Lib.hid ((HNr.out.tr (HN4.out.tr ((by repeat (first | with_reducible exact New.refl _ | with_reducible assumption | with_reducible refine New.dr ?_ | with_reducible refine New.al ?_ _) : New w4 _)))).fr hF6 (fun k hk => by have := (HC.out.cb hk).1; omega)); clear hC6 hM6 hF6)
                | (go_at_call 15; refine (rlen_any A2 n2 c2 G ia _ (by first | exact HR6.out | exact (HR4.out.new (by repeat (first | with_reducible exact New.refl _ | with_reducible assumption | with_reducible refine New.dr ?_ | with_reducible refine New.al ?_ _) : New w4 _))) HG2.out (by omega) HA.out.id).mono ?_; rintro e w7 ⟨rfl, rfl⟩))
            all_goals
              go_wp2_with fail
              refine (rdrop_any A2 n2 c2 G ia w6 HR6.out HG2.out (by omega) HA.out.id).mono ?_
              rintro e w7 ⟨⟨A7, c7, rfl, hO7⟩, hN7⟩
              have HLP : Hid (LP w w0 base g bm (j + 1) (.slice A7 (G.filter fun x => x.kv.id != ia).length c7) w7) := Lib.hid ⟨v6, m, f6, S6, N, _, A7, _, c7, rfl, RdT.own hO7 rfl, rfl, by have := HG2.out; have : (G.filter fun x => x.kv.id != ia).length ≤ G.length := List.length_filter_le _ _; omega, by omega,
                (fun y hy => HGD.out y (List.mem_filter.1 hy).1), HC6.out.new hN7, by rw [kvs_drop]; exact HM6.out, HN6.out.tr hN7⟩
              clear hO7 hN7
              go_wp2_with fail
              go_roundw
              case rel => exact ⟨j + 1, by omega, by go_num, HLP⟩
              case measure => simp [intOf]; omega
    · as_aux_lemma =>
      obtain rfl : j = n1 := by omega
      obtain ⟨v, m, f, S, N, G, A2, n2, c2, rfl, hR2, hG2, hn2, hN2, hgd, hC, hM, hN⟩ := HI.out
      have HC := Lib.hid hC
      have HM := Lib.hid hM
      have HR2 := Lib.hid hR2
      have HG2 := Lib.hid hG2
      have HGD := Lib.hid hgd
      have HNw : Hid (New w wr) := Lib.hid (HN0.out.tr hN)
      have hb := New.blk hN HB0.out
      have i0 : wr.cell? ⟨w.heap.size, 0, none⟩ = some (.int .u64 i) := hb.cell 0
      have i1 : wr.cell? ⟨w.heap.size, 1, none⟩ = some (.int .u64 q) := hb.cell 1
      have i2 : wr.cell? ⟨w.heap.size, 2, none⟩ = some (.slice A n c) := hb.cell 2
      have i3 : wr.cell? ⟨w.heap.size, 3, none⟩ = some (.slice B k d) := hb.cell 3
      have i4 : wr.cell? ⟨w.heap.size, 4, none⟩ = some (.bool dr) := hb.cell 4
      have HB := Lib.hid hb
      have HRr : Hid (Rd (fun b => b < w.heap.size) wr 5 A1 j ((L.map AB.av).flatMap AV.cells)) := Lib.hid (HNw.out.rd HR.out)
      have HL1 : Hid (∀ u ∈ (L.map AB.av).flatMap AV.cells, u.oneCell' = true) := Lib.hid fun u hu => by
        obtain ⟨a, _, h⟩ := List.mem_flatMap.1 hu
        simp [AV.cells] at h
        rcases h with rfl | rfl | rfl | rfl | rfl <;> rfl
      clear hb HI3 HI hC hM hN hR2 hG2 hgd HLB HN0
      go_upto_region 23 with fail
      go_cut [86, 87, 88] from 81 to 88 (fun s86 s87 s88 wx => ∃ A4 d4, s86 = .slice A4 (j + 1) d4 ∧ s87 = .int .i64 ((j + 1 : Nat) : Int) ∧ s88 = .int .i64 0 ∧ Hid (wx.ownsRow wr.heap.size 26 5 (.slice A4 (j + 1) d4) (j + 1) (((L.map AB.av).flatMap AV.cells) ++ #[.int .u64 i, .int .u64 q, .slice A n c, .slice B k d, .bool dr].toList) ∧ New wr wx))
      case first =>
        as_aux_lemma =>
          have hSN : ∀ w', New wr w' → (fun w' => w'.cell? ⟨w.heap.size, 0, none⟩ = some (.int .u64 i) ∧ w'.cell? ⟨w.heap.size, 1, none⟩ = some (.int .u64 q) ∧ w'.cell? ⟨w.heap.size, 2, none⟩ = some (.slice A n c) ∧ w'.cell? ⟨w.heap.size, 3, none⟩ = some (.slice B k d) ∧ w'.cell? ⟨w.heap.size, 4, none⟩ = some (.bool dr)) w' := fun w' hN => ⟨hN.cell_ i0, hN.cell_ i1, hN.cell_ i2, hN.cell_ i3, hN.cell_ i4⟩
          refine wp_region_H (fun w' => w'.cell? ⟨w.heap.size, 0, none⟩ = some (.int .u64 i) ∧ w'.cell? ⟨w.heap.size, 1, none⟩ = some (.int .u64 q) ∧ w'.cell? ⟨w.heap.size, 2, none⟩ = some (.slice A n c) ∧ w'.cell? ⟨w.heap.size, 3, none⟩ = some (.slice B k d) ∧ w'.cell? ⟨w.heap.size, 4, none⟩ = some (.bool dr)) (by kernel_rfl) ?_
          refine wpAnyH_take (i := 1) (oi := ⟨_, _, _, _, _, _⟩) (v := .slice A1 j c1) rfl (by kernel_rfl) (by kernel_rfl) (by kernel_rfl) (fun _ _ _ h => h) (Or.inl ⟨by rfl, fun w hSw => by go_simp⟩) (hSN _ (by repeat (first | with_reducible exact New.refl _ | with_reducible assumption | with_reducible refine New.dr ?_ | with_reducible refine New.al ?_ _) : New wr _)) ?_
          try simp only [Act.put, List.setIfInBounds_toArray, List.set_cons_zero, List.set_cons_succ]
          refine wpAnyH_take (i := 3) (oi := ⟨_, _, _, _, _, _⟩) (v := .agg #[.int .u64 i, .int .u64 q, .slice A n c, .slice B k d, .bool dr]) rfl (by kernel_rfl) (by kernel_rfl) (by kernel_rfl) (fun _ _ _ h => h) (Or.inl ⟨by rfl, fun w hSw => by have h1 := hSw.1; have h2 := hSw.2.1; have h3 := hSw.2.2.1; have h4 := hSw.2.2.2.1; have h5 := hSw.2.2.2.2; clear hSw; go_simp⟩) (hSN _ (by repeat (first | with_reducible exact New.refl _ | with_reducible assumption | with_reducible refine New.dr ?_ | with_reducible refine New.al ?_ _) : New wr _)) ?_
          try simp only [Act.put, List.setIfInBounds_toArray, List.set_cons_zero, List.set_cons_succ]
          refine wpAnyH_take (i := 7) (oi := ⟨_, _, _, _, _, _⟩) (v := .int .i64 0) rfl (by kernel_rfl) (by kernel_rfl) (by kernel_rfl) (fun _ _ _ h => h) (Or.inl ⟨by rfl, fun w hSw => by go_simp⟩) (hSN _ (by repeat (first | with_reducible exact New.refl _ | with_reducible assumption | with_reducible refine New.dr ?_ | with_reducible refine New.al ?_ _) : New wr _)) ?_
          try simp only [Act.put, List.setIfInBounds_toArray, List.set_cons_zero, List.set_cons_succ]
          refine wpAnyH_ready (rs := [0, 4]) (by kernel_rfl) (by simp) (AllH.cons (i := 0) (o := ⟨_, _, _, _, _, _⟩) rfl (fun K hK => ?_) (AllH.cons (i := 4) (o := ⟨_, _, _, _, _, _⟩) rfl (fun K hK => ?_) AllH.nil))
          · skip
            refine step_bs0 elA (by rfl) rfl ?_
            intro g0 w7 hB0 hN0 hl0
            have hm0 : New wr w7 := New.tr ((by repeat (first | with_reducible exact New.refl _ | with_reducible assumption | with_reducible refine New.dr ?_ | with_reducible refine New.al ?_ _) : New wr _)) hN0
            have hl0' : wr.heap.size ≤ g0 := Nat.le_trans ((by repeat (first | with_reducible exact New.refl _ | with_reducible assumption | with_reducible refine New.dr ?_ | with_reducible refine New.al ?_ _) : New wr _).size) hl0
            try simp only [Act.put, List.setIfInBounds_toArray, List.set_cons_zero, List.set_cons_succ]
            refine hK.out _ _ (hSN _ (by repeat (first | with_reducible exact New.refl _ | with_reducible assumption | with_reducible refine New.dr ?_ | with_reducible refine New.al ?_ _) : New wr _)) ?_
            refine wpAnyH_ready (rs := [2, 4]) (by kernel_rfl) (by simp) (AllH.cons (i := 2) (o := ⟨_, _, _, _, _, _⟩) rfl (fun K hK => ?_) (AllH.cons (i := 4) (o := ⟨_, _, _, _, _, _⟩) rfl (fun K hK => ?_) AllH.nil))
            · skip
              refine step_app elA _ (by rfl) (.tmp 81) (.tmp 82) (by rfl) wr.heap.size (.slice (some ⟨g0, 0, none⟩) 0 0) 0 [] (by rfl) (own_lit hB0 hl0') A1 j c1 ((L.map AB.av).flatMap AV.cells) (by rfl) ((by repeat (first | with_reducible exact New.refl _ | with_reducible assumption | with_reducible refine New.dr ?_ | with_reducible refine New.al ?_ _) : New wr _).rd HRr.out) HL1.out (by unfold maxLen; omega) (by omega) ((by repeat (first | with_reducible exact New.refl _ | with_reducible assumption | with_reducible refine New.dr ?_ | with_reducible refine New.al ?_ _) : New wr _).size) ?_
              intro A3 d3 w8 hO1 hF1 hA1
              have hM1 : New wr w8 := (by repeat (first | with_reducible exact New.refl _ | with_reducible assumption | with_reducible refine New.dr ?_ | with_reducible refine New.al ?_ _) : New wr _).fr hF1 (by intro k hk; simp [Value.ownBlock] at hk; omega)
              rw [Nat.zero_add, List.nil_append] at hO1
              rw [Nat.zero_add]
              try simp only [Act.put, List.setIfInBounds_toArray, List.set_cons_zero, List.set_cons_succ]
              refine hK.out _ _ (hSN _ (by repeat (first | with_reducible exact New.refl _ | with_reducible assumption | with_reducible refine New.dr ?_ | with_reducible refine New.al ?_ _) : New wr _)) ?_
              refine wpAnyH_ready (rs := [4]) (by kernel_rfl) (by simp) (AllH.cons (i := 4) (o := ⟨_, _, _, _, _, _⟩) rfl (fun K hK => ?_) AllH.nil)
              refine step_bs1 elA (by decide) (by rfl) (.tmp 84) rfl #[.int .u64 i, .int .u64 q, .slice A n c, .slice B k d, .bool dr] (by rfl) rfl ?_
              intro gb wb hBb hNb hlb
              have hmb : New wr wb := New.tr ((by repeat (first | with_reducible exact New.refl _ | with_reducible assumption | with_reducible refine New.dr ?_ | with_reducible refine New.al ?_ _) : New wr _)) hNb
              have hO1 := New.own hNb hO1
              try simp only [Act.put, List.setIfInBounds_toArray, List.set_cons_zero, List.set_cons_succ]
              refine hK.out _ _ (hSN _ (by repeat (first | with_reducible exact New.refl _ | with_reducible assumption | with_reducible refine New.dr ?_ | with_reducible refine New.al ?_ _) : New wr _)) ?_
              refine wpAnyH_ready (rs := [5]) (by kernel_rfl) (by simp) (AllH.cons (i := 5) (o := ⟨_, _, _, _, _, _⟩) rfl (fun K hK => ?_) AllH.nil)
              refine step_app elA _ (by rfl) (.tmp 83) (.tmp 85) (by rfl) wr.heap.size (.slice A3 j d3) j ((L.map AB.av).flatMap AV.cells) (by rfl) hO1 (some ⟨gb, 0, none⟩) 1 1 #[.int .u64 i, .int .u64 q, .slice A n c, .slice B k d, .bool dr].toList (by rfl) (Rd.ofBlk (p := fun _ => True) (t := 26) (cs := #[.int .u64 i, .int .u64 q, .slice A n c, .slice B k d, .bool dr]) hBb 5 1 rfl trivial) (by simp [Value.oneCell']) (by unfold maxLen; omega) (by omega) ((by repeat (first | with_reducible exact New.refl _ | with_reducible assumption | with_reducible refine New.dr ?_ | with_reducible refine New.al ?_ _) : New wr _).size) ?_
              intro A4 d4 w9 hO2 hF2 hA2
              have hM2 : New wr w9 := (by repeat (first | with_reducible exact New.refl _ | with_reducible assumption | with_reducible refine New.dr ?_ | with_reducible refine New.al ?_ _) : New wr _).fr hF2 (by intro k hk; exact (own_lt hO1 k hk).1)
              try simp only [Act.put, List.setIfInBounds_toArray, List.set_cons_zero, List.set_cons_succ]
              refine hK.out _ _ (hSN _ (by repeat (first | with_reducible exact New.refl _ | with_reducible assumption | with_reducible refine New.dr ?_ | with_reducible refine New.al ?_ _) : New wr _)) ?_
              refine wpAnyH_take (i := 6) (oi := ⟨_, _, _, _, _, _⟩) (v := .int .i64 ((j + 1 : Nat) : Int)) rfl (by kernel_rfl) (by kernel_rfl) (by kernel_rfl) (fun _ _ _ h => h) (Or.inl ⟨by rfl, fun w hSw => by go_simp⟩) (hSN _ (by repeat (first | with_reducible exact New.refl _ | with_reducible assumption | with_reducible refine New.dr ?_ | with_reducible refine New.al ?_ _) : New wr _)) ?_
              try simp only [Act.put, List.setIfInBounds_toArray, List.set_cons_zero, List.set_cons_succ]
              refine wpAnyH_done (by kernel_rfl) ?_ _
              try go_wp2_with fail
              go_meet
              exact ⟨A4, d4, rfl, rfl, rfl, Lib.hid ⟨hO2, hM2⟩⟩
            · skip
              refine step_bs1 elA (by decide) (by rfl) (.tmp 84) rfl #[.int .u64 i, .int .u64 q, .slice A n c, .slice B k d, .bool dr] (by rfl) rfl ?_
              intro gb wb hBb hNb hlb
              have hmb : New wr wb := New.tr ((by repeat (first | with_reducible exact New.refl _ | with_reducible assumption | with_reducible refine New.dr ?_ | with_reducible refine New.al ?_ _) : New wr _)) hNb
              have hne : g0 ≠ gb := by have := hB0.lt; omega
              have hB0 := hNb.blk hB0
              try simp only [Act.put, List.setIfInBounds_toArray, List.set_cons_zero, List.set_cons_succ]
              refine hK.out _ _ (hSN _ (by repeat (first | with_reducible exact New.refl _ | with_reducible assumption | with_reducible refine New.dr ?_ | with_reducible refine New.al ?_ _) : New wr _)) ?_
              refine wpAnyH_ready (rs := [2]) (by kernel_rfl) (by simp) (AllH.cons (i := 2) (o := ⟨_, _, _, _, _, _⟩) rfl (fun K hK => ?_) AllH.nil)
              refine step_app elA _ (by rfl) (.tmp 81) (.tmp 82) (by rfl) wr.heap.size (.slice (some ⟨g0, 0, none⟩) 0 0) 0 [] (by rfl) (own_lit hB0 hl0') A1 j c1 ((L.map AB.av).flatMap AV.cells) (by rfl) ((by repeat (first | with_reducible exact New.refl _ | with_reducible assumption | with_reducible refine New.dr ?_ | with_reducible refine New.al ?_ _) : New wr _).rd HRr.out) HL1.out (by unfold maxLen; omega) (by omega) ((by repeat (first | with_reducible exact New.refl _ | with_reducible assumption | with_reducible refine New.dr ?_ | with_reducible refine New.al ?_ _) : New wr _).size) ?_
              intro A3 d3 w8 hO1 hF1 hA1
              have hM1 : New wr w8 := (by repeat (first | with_reducible exact New.refl _ | with_reducible assumption | with_reducible refine New.dr ?_ | with_reducible refine New.al ?_ _) : New wr _).fr hF1 (by intro k hk; simp [Value.ownBlock] at hk; omega)
              rw [Nat.zero_add, List.nil_append] at hO1
              rw [Nat.zero_add]
              have hBb := hBb.fr hF1 (fun e => hne (by simpa [Value.ownBlock] using e))
              try simp only [Act.put, List.setIfInBounds_toArray, List.set_cons_zero, List.set_cons_succ]
              refine hK.out _ _ (hSN _ (by repeat (first | with_reducible exact New.refl _ | with_reducible assumption | with_reducible refine New.dr ?_ | with_reducible refine New.al ?_ _) : New wr _)) ?_
              refine wpAnyH_ready (rs := [5]) (by kernel_rfl) (by simp) (AllH.cons (i := 5) (o := ⟨_, _, _, _, _, _⟩) rfl (fun K hK => ?_) AllH.nil)
              refine step_app elA _ (by rfl) (.tmp 83) (.tmp 85) (by rfl) wr.heap.size (.slice A3 j d3) j ((L.map AB.av).flatMap AV.cells) (by rfl) hO1 (some ⟨gb, 0, none⟩) 1 1 #[.int .u64 i, .int .u64 q, .slice A n c, .slice B k d, .bool dr].toList (by rfl) (Rd.ofBlk (p := fun _ => True) (t := 26) (cs := #[.int .u64 i, .int .u64 q, .slice A n c, .slice B k d, .bool dr]) hBb 5 1 rfl trivial) (by simp [Value.oneCell']) (by unfold maxLen; omega) (by omega) ((by repeat (first | with_reducible exact New.refl _ | with_reducible assumption | with_reducible refine New.dr ?_ | with_reducible refine New.al ?_ _) : New wr _).size) ?_
              intro A4 d4 w9 hO2 hF2 hA2
              have hM2 : New wr w9 := (by repeat (first | with_reducible exact New.refl _ | with_reducible assumption | with_reducible refine New.dr ?_ | with_reducible refine New.al ?_ _) : New wr _).fr hF2 (by intro k hk; exact (own_lt hO1 k hk).1)
              try simp only [Act.put, List.setIfInBounds_toArray, List.set_cons_zero, List.set_cons_succ]
              refine hK.out _ _ (hSN _ (by repeat (first | with_reducible exact New.refl _ | with_reducible assumption | with_reducible refine New.dr ?_ | with_reducible refine New.al ?_ _) : New wr _)) ?_
              refine wpAnyH_take (i := 6) (oi := ⟨_, _, _, _, _, _⟩) (v := .int .i64 ((j + 1 : Nat) : Int)) rfl (by kernel_rfl) (by kernel_rfl) (by kernel_rfl) (fun _ _ _ h => h) (Or.inl ⟨by rfl, fun w hSw => by go_simp⟩) (hSN _ (by repeat (first | with_reducible exact New.refl _ | with_reducible assumption | with_reducible refine New.dr ?_ | with_reducible refine New.al ?_ _) : New wr _)) ?_
              try simp only [Act.put, List.setIfInBounds_toArray, List.set_cons_zero, List.set_cons_succ]
              refine wpAnyH_done (by kernel_rfl) ?_ _
              try go_wp2_with fail
              go_meet
              exact ⟨A4, d4, rfl, rfl, rfl, Lib.hid ⟨hO2, hM2⟩⟩
          · skip
            refine step_bs1 elA (by decide) (by rfl) (.tmp 84) rfl #[.int .u64 i, .int .u64 q, .slice A n c, .slice B k d, .bool dr] (by rfl) rfl ?_
            intro gb wb hBb hNb hlb
            have hmb : New wr wb := New.tr ((by repeat (first | with_reducible exact New.refl _ | with_reducible assumption | with_reducible refine New.dr ?_ | with_reducible refine New.al ?_ _) : New wr _)) hNb
            try simp only [Act.put, List.setIfInBounds_toArray, List.set_cons_zero, List.set_cons_succ]
            refine hK.out _ _ (hSN _ (by repeat (first | with_reducible exact New.refl _ | with_reducible assumption | with_reducible refine New.dr ?_ | with_reducible refine New.al ?_ _) : New wr _)) ?_
            refine wpAnyH_ready (rs := [0]) (by kernel_rfl) (by simp) (AllH.cons (i := 0) (o := ⟨_, _, _, _, _, _⟩) rfl (fun K hK => ?_) AllH.nil)
            refine step_bs0 elA (by rfl) rfl ?_
            intro g0 w7 hB0 hN0 hl0
            have hm0 : New wr w7 := New.tr ((by repeat (first | with_reducible exact New.refl _ | with_reducible assumption | with_reducible refine New.dr ?_ | with_reducible refine New.al ?_ _) : New wr _)) hN0
            have hl0' : wr.heap.size ≤ g0 := Nat.le_trans ((by repeat (first | with_reducible exact New.refl _ | with_reducible assumption | with_reducible refine New.dr ?_ | with_reducible refine New.al ?_ _) : New wr _).size) hl0
            have hne : g0 ≠ gb := by have := hBb.lt; omega
            have hBb := hN0.blk hBb
            try simp only [Act.put, List.setIfInBounds_toArray, List.set_cons_zero, List.set_cons_succ]
            refine hK.out _ _ (hSN _ (by repeat (first | with_reducible exact New.refl _ | with_reducible assumption | with_reducible refine New.dr ?_ | with_reducible refine New.al ?_ _) : New wr _)) ?_
            refine wpAnyH_ready (rs := [2]) (by kernel_rfl) (by simp) (AllH.cons (i := 2) (o := ⟨_, _, _, _, _, _⟩) rfl (fun K hK => ?_) AllH.nil)
            refine step_app elA _ (by rfl) (.tmp 81) (.tmp 82) (by rfl) wr.heap.size (.slice (some ⟨g0, 0, none⟩) 0 0) 0 [] (by rfl) (own_lit hB0 hl0') A1 j c1 ((L.map AB.av).flatMap AV.cells) (by rfl) ((by repeat (first | with_reducible exact New.refl _ | with_reducible assumption | with_reducible refine New.dr ?_ | with_reducible refine New.al ?_ _) : New wr _).rd HRr.out) HL1.out (by unfold maxLen; omega) (by omega) ((by repeat (first | with_reducible exact New.refl _ | with_reducible assumption | with_reducible refine New.dr ?_ | with_reducible refine New.al ?_ _) : New wr _).size) ?_
            intro A3 d3 w8 hO1 hF1 hA1
            have hM1 : New wr w8 := (by repeat (first | with_reducible exact New.refl _ | with_reducible assumption | with_reducible refine New.dr ?_ | with_reducible refine New.al ?_ _) : New wr _).fr hF1 (by intro k hk; simp [Value.ownBlock] at hk; omega)
            rw [Nat.zero_add, List.nil_append] at hO1
            rw [Nat.zero_add]
            have hBb := hBb.fr hF1 (fun e => hne (by simpa [Value.ownBlock] using e))
            try simp only [Act.put, List.setIfInBounds_toArray, List.set_cons_zero, List.set_cons_succ]
            refine hK.out _ _ (hSN _ (by repeat (first | with_reducible exact New.refl _ | with_reducible assumption | with_reducible refine New.dr ?_ | with_reducible refine New.al ?_ _) : New wr _)) ?_
            refine wpAnyH_ready (rs := [5]) (by kernel_rfl) (by simp) (AllH.cons (i := 5) (o := ⟨_, _, _, _, _, _⟩) rfl (fun K hK => ?_) AllH.nil)
            refine step_app elA _ (by rfl) (.tmp 83) (.tmp 85) (by rfl) wr.heap.size (.slice A3 j d3) j ((L.map AB.av).flatMap AV.cells) (by rfl) hO1 (some ⟨gb, 0, none⟩) 1 1 #[.int .u64 i, .int .u64 q, .slice A n c, .slice B k d, .bool dr].toList (by rfl) (Rd.ofBlk (p := fun _ => True) (t := 26) (cs := #[.int .u64 i, .int .u64 q, .slice A n c, .slice B k d, .bool dr]) hBb 5 1 rfl trivial) (by simp [Value.oneCell']) (by unfold maxLen; omega) (by omega) ((by repeat (first | with_reducible exact New.refl _ | with_reducible assumption | with_reducible refine New.dr ?_ | with_reducible refine New.al ?_ _) : New wr _).size) ?_
            intro A4 d4 w9 hO2 hF2 hA2
            have hM2 : New wr w9 := (by repeat (first | with_reducible exact New.refl _ | with_reducible assumption | with_reducible refine New.dr ?_ | with_reducible refine New.al ?_ _) : New wr _).fr hF2 (by intro k hk; exact (own_lt hO1 k hk).1)
            try simp only [Act.put, List.setIfInBounds_toArray, List.set_cons_zero, List.set_cons_succ]
            refine hK.out _ _ (hSN _ (by repeat (first | with_reducible exact New.refl _ | with_reducible assumption | with_reducible refine New.dr ?_ | with_reducible refine New.al ?_ _) : New wr _)) ?_
            refine wpAnyH_take (i := 6) (oi := ⟨_, _, _, _, _, _⟩) (v := .int .i64 ((j + 1 : Nat) : Int)) rfl (by kernel_rfl) (by kernel_rfl) (by kernel_rfl) (fun _ _ _ h => h) (Or.inl ⟨by rfl, fun w hSw => by go_simp⟩) (hSN _ (by repeat (first | with_reducible exact New.refl _ | with_reducible assumption | with_reducible refine New.dr ?_ | with_reducible refine New.al ?_ _) : New wr _)) ?_
            try simp only [Act.put, List.setIfInBounds_toArray, List.set_cons_zero, List.set_cons_succ]
            refine wpAnyH_done (by kernel_rfl) ?_ _
            try go_wp2_with fail
            go_meet
            exact ⟨A4, d4, rfl, rfl, rfl, Lib.hid ⟨hO2, hM2⟩⟩
      case rest =>
        obtain ⟨A4, d4, rfl, rfl, rfl, HX⟩ := hcut
        generalize hl2 : j + 1 = l2 at *
        have HL2 := Lib.hid hl2
        have HNc : Hid (New wr wc) := Lib.hid HX.out.2
        obtain ⟨x0, hx0⟩ : ∃ x0 : AB, x0 = ⟨⟨i, q, A, n, c, B, k, d, dr⟩, rq, rp⟩ := ⟨_, rfl⟩
        have hR4 : Rd (fun b => (Value.slice A4 l2 d4).ownBlock = some b) wc 5 A4 l2 (((L ++ [x0]).map AB.av).flatMap AV.cells) := by
          have e : ((L ++ [x0]).map AB.av).flatMap AV.cells = ((L.map AB.av).flatMap AV.cells) ++ #[.int .u64 i, .int .u64 q, .slice A n c, .slice B k d, .bool dr].toList := by simp [hx0, AV.cells]
          rw [e]
          exact Rd.own HX.out.1 rfl
        have hG4 : ∀ a ∈ L ++ [x0], a.Good w := fun a ha => by
          rcases List.mem_append.1 ha with h | h
          · exact HG.out a h
          · rw [List.mem_singleton.1 h, hx0]; exact HX'.out
        have hl4 : (L ++ [x0]).length = l2 := by rw [List.length_append, HL.out, ← HL2.out]; rfl
        generalize L ++ [x0] = L4 at hR4 hG4 hl4
        have HR4 := Lib.hid hR4
        have HG4 := Lib.hid hG4
        have HL4 := Lib.hid hl4
        have HCc := Lib.hid (HC.out.new HNc.out)
        have HRc := Lib.hid (HR2.out.new HNc.out)
        have HNwc : Hid (New w wc) := Lib.hid (HNw.out.tr HNc.out)
        have hl2n : l2 ≤ 300 := by omega
        have hbase : w.heap.size ≤ base := by omega
        clear hR4 hG4 hl4 hx0 hl2 HX HC HR2 HNw HR HRr HL1 i0 i1 i2 i3 i4 HB HNc
        go_wp2_with fail
        go_loopw [88] (fun i wr => ∃ (t : Nat), t ≤ l2 ∧ i = .int .i64 t ∧ Hid (New wc wr)) (fun i _ => l2 - (intOf i).toNat)
        case atStart => exact ⟨0, by omega, rfl, Lib.hid (New.refl _)⟩
        case round =>
          obtain ⟨t, ht, rfl, HN⟩ := hrel
          by_cases htl : t < l2
          · as_aux_lemma =>
            obtain ⟨gA, oA, hl, rfl, -, -, c0, c1', c2', c3, c4⟩ := rd_av (HN.out.rd HR4.out) (by simp [HL4.out]) htl
            have hl' : t < L4.length := by simpa using hl
            simp only [List.getElem_map] at c0 c1' c2' c3 c4
            have ha := HG4.out L4[t] (List.getElem_mem _)
            generalize L4[t] = a at c0 c1' c2' c3 c4 ha
            obtain ⟨⟨ia, qa, Aa, na, ca, Ba, ka, da, dra⟩, rqa, rpa⟩ := a
            dsimp only at c0 c1' c2' c3 c4
            have HA := Lib.hid ha
            clear ha hl hl'
            go_upto_region 26 with fail
            obtain ⟨w4, hw4⟩ : ∃ w4 : World, w4 = wr.alloc (.cells #[.int .u64 ia, .int .u64 qa, .slice Aa na ca, .slice Ba ka da, .bool dra] 26) := ⟨_, rfl⟩
            have HN4 : Hid (New wc w4) := Lib.hid (by rw [hw4]; exact HN.out.al _)
            have HB4 : Hid (Blk w4 wr.heap.size 26 #[.int .u64 ia, .int .u64 qa, .slice Aa na ca, .slice Ba ka da, .bool dra]) := Lib.hid (by rw [hw4]; exact Blk.new _ _ _)
            try rw [← hw4]
            clear hw4 c0 c1' c2' c3 c4
            have HNw4 : Hid (New w w4) := Lib.hid (HNwc.out.tr HN4.out)
            have i0 := HB4.out.cell 0
            have i1 := HB4.out.cell 1
            have i2 := HB4.out.cell 2
            have hfp := find_plays base g v bm m f S N ia qa Aa na ca rqa w4 (HCc.out.new HN4.out) HA.out.id HA.out.seq (rd_out HA.out.rdq HNw4.out hbase) HA.out.bq (kvs G) HM.out
            rw [findL_kvs] at hfp
            have hrf := fun (w5 : World) (hN5 : New w4 w5) => rfind_any A2 n2 c2 G ia qa Aa na ca rqa w5 (HRc.out.new (HN4.out.tr hN5)) HG2.out (by omega) HA.out.id HA.out.seq (fun y hy => (HGD.out y hy).new (HNw4.out.tr hN5)) ((HNw4.out.tr hN5).rd HA.out.rdq) HA.out.bq
            unfold FEnd at hrf
            have hgy : ∀ y, G.find? (hits ia qa rqa) = some y → y.Good w := fun y hy => HGD.out y (find_hd hy)
            have HLP := Lib.hid (fun (W : World) (hW : New wc W) => len_plays base g v bm m f S N ia W (HCc.out.new hW) HA.out.id (kvs G) HM.out)
            have HRL := Lib.hid (fun (W : World) (hW : New wc W) => rlen_any A2 n2 c2 G ia W (HRc.out.new hW) HG2.out (by omega) HA.out.id)
            generalize cnt (kvs G) ia = z at HLP HRL
            rcases hf : G.find? (hits ia qa rqa) with _ | y
            · rw [hf] at hfp hrf
              have HFP := Lib.hid hfp
              have HRF := Lib.hid hrf
              clear hfp hrf hgy hf
              go_wp2_with fail
              refine HFP.out.mono ?_
              rintro e w5 ⟨he, hN5⟩
              have he' : e = .returned (.tuple #[.slice none 0 0, .bool false]) := he
              subst he'
              have HN5 : Hid (New w4 w5) := Lib.hid hN5
              have hb5 := New.blk hN5 HB4.out
              have i0 := hb5.cell 0
              have i1 := hb5.cell 1
              have i2 := hb5.cell 2
              clear he hN5 hb5
              go_wp2_with fail
              refine (HRF.out w5 HN5.out).mono ?_
              rintro e w6 ⟨he, hN6⟩
              have he' : e = .returned (.tuple #[.slice none 0 0, .bool false]) := he
              subst he'
              have HN6 : Hid (New wc w6) := Lib.hid ((HN4.out.tr HN5.out).tr hN6)
              have hb6 := New.blk (HN5.out.tr hN6) HB4.out
              have i0 := hb6.cell 0
              have qb := fun t => Calls.quiet_of_same ((bytes_any none none 0 0 0 0 [] [] (w6.drewN t) (p := fun _ => True) (q := fun _ => True) Rd.nil Rd.nil (by intro x h; cases h) (by intro x h; cases h)).mono fun _ _ h => ⟨h.1, h.2.symm⟩)
              rw [show decide (([] : List Int) = []) = true from rfl] at qb
              have ql := fun t => Calls.quiet_of_same ((HLP.out (w6.drewN t) (HN6.out.dn t)).mono fun _ _ h => ⟨h.1, h.2.symm⟩)
              have qr := fun t => Calls.quiet_of_same ((HRL.out (w6.drewN t) (HN6.out.dn t)).mono fun _ _ h => ⟨h.1, h.2.symm⟩)
              have QB := Lib.hid qb
              have QL := Lib.hid ql
              have QR := Lib.hid qr
              clear he hN6 hb6 qb ql qr
              go_wp2_with fail
              go_quiet ((first | (go_at_call 11; exact QB.out _) | (go_at_call 12; exact QL.out _) | (go_at_call 15; exact QR.out _)))
              go_wp2_with fail
              go_roundw
              case rel => exact ⟨t + 1, by omega, by go_num, Lib.hid (HN6.out.dn _)⟩
              case measure => simp [intOf]; omega
            · rw [hf] at hfp hrf
              have hgy := hgy y hf
              have HFP := Lib.hid hfp
              have HRF := Lib.hid hrf
              have HGY := Lib.hid hgy
              clear hfp hrf hgy hf
              go_wp2_with fail
              refine HFP.out.mono ?_
              rintro e w5 ⟨⟨AF, nF, cF, he, hRF⟩, hN5⟩
              subst he
              have HN5 : Hid (New w4 w5) := Lib.hid hN5
              have HRB := Lib.hid hRF
              have hb5 := New.blk hN5 HB4.out
              have i0 := hb5.cell 0
              have i1 := hb5.cell 1
              have i2 := hb5.cell 2
              clear hN5 hb5 hRF
              go_wp2_with fail
              refine (HRF.out w5 HN5.out).mono ?_
              rintro e w6 ⟨he, hN6⟩
              have he' : e = .returned (.tuple #[.slice y.B y.k y.d, .bool true]) := he
              subst he'
              have HN6 : Hid (New wc w6) := Lib.hid ((HN4.out.tr HN5.out).tr hN6)
              have hb6 := New.blk (HN5.out.tr hN6) HB4.out
              have i0 := hb6.cell 0
              have hNw6 : New w w6 := HNwc.out.tr HN6.out
              have hr6 := HRB.out.fr (hN6.toFr NoB) (fun _ x => x.elim)
              have qb := fun t => Calls.quiet_of_same ((bytes_any AF y.B nF y.k cF y.d y.kv.rep y.kv.rep (w6.drewN t) (((New.refl w6).dn t).rd hr6.1) ((hNw6.dn t).rd HGY.out.rdp) hr6.2 HGY.out.bp).mono fun _ _ h => ⟨h.1, h.2.symm⟩)
              rw [show decide (y.kv.rep = y.kv.rep) = true from decide_eq_true rfl] at qb
              have ql := fun t => Calls.quiet_of_same ((HLP.out (w6.drewN t) (HN6.out.dn t)).mono fun _ _ h => ⟨h.1, h.2.symm⟩)
              have qr := fun t => Calls.quiet_of_same ((HRL.out (w6.drewN t) (HN6.out.dn t)).mono fun _ _ h => ⟨h.1, h.2.symm⟩)
              have QB := Lib.hid qb
              have QL := Lib.hid ql
              have QR := Lib.hid qr
              clear he hN6 hb6 qb ql qr hr6
              go_wp2_with fail
              go_quiet ((first | (go_at_call 11; exact QB.out _) | (go_at_call 12; exact QL.out _) | (go_at_call 15; exact QR.out _)))
              go_wp2_with fail
              go_roundw
              case rel => exact ⟨t + 1, by omega, by go_num, Lib.hid (HN6.out.dn _)⟩
              case measure => simp [intOf]; omega
          · as_aux_lemma =>
            obtain rfl : t = l2 := by omega
            have hM := HM.out.ids
            have hSl : S.length = (sess (kvs G)).length := by rw [← hM, List.length_map]
            have h8 := (HCc.out).len
            have HCr := Lib.hid (HCc.out.new HN.out)
            have HRr := Lib.hid (HRc.out.new HN.out)
            have HMI := Lib.hid hM
            have HSL := Lib.hid hSl
            clear hM hSl
            go_wp2_with fail
            refine (sess_any base g v bm m f S N wr HCr.out).mono ?_
            rintro e w5 ⟨⟨A5, d5, rfl, hO5⟩, hN5⟩
            have HN5 : Hid (New wr w5) := Lib.hid hN5
            have HO5 := Lib.hid hO5
            clear hN5 hO5
            go_wp2_with fail
            refine (rsess_any A2 n2 c2 G w5 (HRr.out.new HN5.out) HG2.out (by omega)).mono ?_
            rintro e w6 ⟨⟨A6, d6, rfl, hR6⟩, hN6⟩
            have HN6 : Hid (New wr w6) := Lib.hid (HN5.out.tr hN6)
            have HO6 := Lib.hid (New.own hN6 HO5.out)
            have HR6 := Lib.hid hR6
            clear hN6 hR6
            have hw := wide_any A5 A6 S.length (sess (kvs G)).length d5 d6 (S.map Ses.id) (sess (kvs G)) w6 (Rd.own HO6.out rfl) HR6.out (by omega) (by have := HSL.out; omega)
            rw [decide_eq_true HMI.out] at hw
            have HW := Lib.hid hw
            clear hw
            go_wp2_with fail
            refine HW.out.mono ?_
            rintro e w7 ⟨rfl, hN7⟩
            have HN7 : Hid (New w6 w7) := Lib.hid hN7
            clear hN7
            go_wp2_with fail
            go_ret
            exact ⟨rfl, ((HNwc.out.tr HN.out).tr HN6.out).tr HN7.out⟩
end Go.Proofs.Ytpomcnfifhfffaa
