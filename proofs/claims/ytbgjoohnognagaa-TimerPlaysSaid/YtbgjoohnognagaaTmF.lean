/- Timers: Drop, Next. No condition but the timer's own. -/
import Derived.Test.YtbgjoohnognagaaTmD
import Derived.Test.YtbgjoohnognagaaDel
import Derived.Test.YtbgjoohnognagaaRow
namespace Go.Proofs.Ytbgjoohnognagaa
open Go.RowKit

theorem del_raw (base b n c i j : Nat) (xs : List Value) (w : World) (hO : w.ownsRow base 65 5 (.slice (some ⟨b, 0, none⟩) n c) n xs) (hij : i < j) (hj : j ≤ n) (hnc : n ≤ c) (hcm : c ≤ maxLen) (h1 : ∀ u ∈ xs, u.oneCell' = true) :
    Calls Try.prog 30 #[.slice (some ⟨b, 0, none⟩) n c, .int .i64 i, .int .i64 j] w fun e w' => e = .returned (.slice (some ⟨b, 0, none⟩) (i + (n - j)) c) ∧
      w'.ownsRow base 65 5 (.slice (some ⟨b, 0, none⟩) (i + (n - j)) c) (i + (n - j)) (xs.take (i * 5) ++ xs.drop (j * 5)) ∧ Fr (fun k => k = b) w w' := by
  unfold maxLen at hcm
  have hic : i ≤ c := by omega
  have hjc : j ≤ c := by omega
  have hcut : w.drew.ownsRow base 65 5 (.slice (some ⟨b, 0, none⟩) i c) i (xs.take (i * 5)) := own_cut hO (by omega)
  have hsrc : Rd (fun _ => True) w.drew 5 (if c = j then some ⟨b, 0, none⟩ else some ⟨b, j * 5, none⟩) (n - j) (xs.drop (j * 5)) := by
    have := ((Rd.own hO rfl).imp (q := fun _ => True) (fun _ _ => trivial)).drop (cap := c) hj hnc
    rw [Option.map_some, add_own] at this
    exact this
  have hne : ((i : Int) == (j : Int)) = false := by simp; omega
  have HC := Lib.hid hcut
  have HS := Lib.hid hsrc
  have HO := Lib.hid hO
  have HI := Lib.hid h1
  clear hcut hsrc hO h1
  go_enter Try.func30, Try.ntmps30
  go_wp2_with fail
  go_region_law (refine step_app_fits elR rfl (.tmp 22) (.tmp 25) rfl (base := base) (g := b) (n := i) (cap := c) (xs := xs.take (i * 5)) (by simp [Act.eval, Act.put]) HC.out _ (n - j) (c - j) (xs.drop (j * 5)) (by simp [Act.eval, Act.put]) HS.out (fun u hu => HI.out u (List.mem_of_mem_drop hu)) (by omega) ?_; intro w2 hO2 hF2)
  obtain ⟨w3, hcl, hO3, hF3⟩ := run_clear_own (P := Try.prog) (size := 5) Try.underlying60 (z := .agg #[.int .u64 0, .int .i64 0, .int .i64 0, .int .i64 0, .int .i64 0]) (fun _ => by kernel_rfl) rfl (by simp [Value.cells, Value.oneCell']) 0 hO2 (n - (i + (n - j))) (c - (i + (n - j))) _ rfl (by omega)
  clear hO2
  have HO3 := Lib.hid hO3
  clear hO3
  go_wp2_with fail
  all_goals go_ret
  · subst_vars; exact ⟨rfl, HO3.out, Fr.ofDrew (hF2.trans hF3)⟩
  · exact ⟨rfl, HO3.out, Fr.ofDrew (hF2.trans hF3)⟩
theorem del_run (base b n c i : Nat) (L : List Rn) (w : World) (hO : w.ownsRow base 65 5 (.slice (some ⟨b, 0, none⟩) n c) n (flat L)) (hi : i < n) (hnc : n ≤ c) (hcm : c ≤ maxLen) :
    Calls Try.prog 30 #[.slice (some ⟨b, 0, none⟩) n c, .int .i64 i, .int .i64 ((i : Int) + 1)] w fun e w' => e = .returned (.slice (some ⟨b, 0, none⟩) (n - 1) c) ∧
      w'.ownsRow base 65 5 (.slice (some ⟨b, 0, none⟩) (n - 1) c) (n - 1) (flat (L.eraseIdx i)) ∧ Fr (fun k => k = b) w w' := by
  have hl : L.length = n := by have := hO.1; rw [flat_len] at this; omega
  have h := del_raw base b n c i (i + 1) (flat L) w hO (by omega) (by omega) hnc hcm (flat_cell L)
  have e1 : i + (n - (i + 1)) = n - 1 := by omega
  rw [e1, flat_del L i (by omega)] at h
  exact h

theorem drop_no (base g : Nat) (v : Value) (L : List Rn) (least most limit : Int) (mean : Nat) (a : Int) (w : World) (hT : Tm w base g v L least most limit mean) (hp : place L a = none) :
    Calls Try.prog 15 #[.pointer (some ⟨g, 0, none⟩), .int .u64 a] w fun e w' => e = .returned (.bool false) ∧ New w w' := by
  have HQ := Lib.hid (placeI_none hp)
  have HT := Lib.hid hT
  clear hp hT
  go_enter Try.func15, Try.ntmps15
  go_wp2_with fail
  refine (place_any base g v L least most limit mean a w HT.out).mono ?_
  rw [HQ.out]
  rintro e w1 ⟨rfl, hb1⟩
  go_wp2_with fail
  go_ret
  exact ⟨rfl, hb1⟩
theorem drop_yes (base g : Nat) (v : Value) (L : List Rn) (least most limit : Int) (mean : Nat) (a : Int) (w : World) (hT : Tm w base g v L least most limit mean) (i : Nat) (hp : place L a = some i) :
    Calls Try.prog 15 #[.pointer (some ⟨g, 0, none⟩), .int .u64 a] w fun e w' => e = .returned (.bool true) ∧
      ∃ v', Tm w' base g v' (L.eraseIdx i) least most limit mean ∧ Fr (fun k => k = g ∨ v.ownBlock = some k) w w' ∧ v'.ownBlock = v.ownBlock := by
  have HQ := Lib.hid (placeI_some hp)
  obtain ⟨hi, -⟩ := place_lt hp
  have HT := Lib.hid hT
  clear hp hT
  go_enter Try.func15, Try.ntmps15
  go_wp2_with fail
  refine (place_any base g v L least most limit mean a w HT.out).mono ?_
  rw [HQ.out]
  rintro e w1 ⟨rfl, hb1⟩
  have HN1 : Hid (New w w1) := Lib.hid hb1
  have hT1 := HT.out.new hb1
  obtain ⟨b, c, rfl, hnc, hcm⟩ := own_form hT1.2.2.1 (by omega)
  have i4 : w1.cell? ⟨g, 4, none⟩ = some (.slice (some ⟨b, 0, none⟩) L.length c) := hT1.2.1.cell 4
  have hlen := hT1.2.2.2
  have HT1 := Lib.hid hT1
  have HI : Hid (i < L.length) := Lib.hid hi
  clear hb1 hT1
  go_wp2_with fail
  refine (del_run base b L.length c i L w1 HT1.out.2.2.1 HI.out hnc hcm).mono ?_
  rintro e w2 ⟨rfl, hO2, hF2⟩
  have hng : ¬ g = b := fun e => HT1.out.ne b (by simp [Value.ownBlock]) e.symm
  have hB2 := HT1.out.2.1.fr hF2 hng
  have m4 := hB2.cell 4
  have q4 := hB2.frozen 4
  have HB2 := Lib.hid hB2
  have HO2 := Lib.hid hO2
  have HF2 := Lib.hid hF2
  clear hB2 hO2 hF2
  go_wp2_with fail
  go_ret
  have hl : (L.eraseIdx i).length = L.length - 1 := List.length_eraseIdx_of_lt HI.out
  refine ⟨rfl, .slice (some ⟨b, 0, none⟩) (L.length - 1) c, ⟨HT1.out.1, HB2.out.set 4 _, ?_, by omega⟩, ?_, rfl⟩
  · rw [hl]
    exact own_fr HO2.out ((Fr.refl (fun k => k = g) w2).setCell (p := ⟨g, 4, none⟩) (fun _ => rfl) _) (fun k hk e => by simp [Value.ownBlock] at hk; omega)
  · exact (((HN1.out.toFr _).trans' HF2.out (fun k _ hk => .inr (by simp [Value.ownBlock, hk])))).setCell (p := ⟨g, 4, none⟩) (fun _ => .inl rfl) _

/-- The one that is due first. -/
def Minned (L : List Rn) (m : Rn) : Prop := m ∈ L ∧ ∀ x ∈ L, m.d ≤ x.d
theorem cmpc_any (x y : Rn) (hx : x.Fair) (hy : y.Fair) (w : World) :
    Calls Try.prog 28 #[.agg #[.int .u64 x.n, .int .i64 x.b, .int .i64 x.d, .int .i64 x.l, .int .i64 x.s], .agg #[.int .u64 y.n, .int .i64 y.b, .int .i64 y.d, .int .i64 y.l, .int .i64 y.s]] w fun e w' => e = .returned (.int .i64 (x.d - y.d)) ∧ New w w' := by
  have h1 := hx.d0
  have h2 := hx.d1
  have h3 := hy.d0
  have h4 := hy.d1
  clear hx hy
  go_enter Try.func28, Try.ntmps28
  go_wp2_with fail
  go_ret
  exact ⟨rfl, New.al (New.al (New.refl w) _) _⟩
theorem rowR : RowOf Try.prog 65 5 := RowOf.mk' Try.underlying65 rfl (by kernel_rfl)
theorem rn_one (x : Rn) : x.cells.toArray.all (·.oneCell') = true := all_oneCell_toArray (fun u hu => flat_cell [x] u (by simpa [flat] using hu))
/-- What MinFunc holds behind k of them. -/
def MI (w : World) (L : List Rn) (k : Nat) (wr : World) : Prop :=
  ∃ m, Minned (L.take k) m ∧ Blk wr (w.heap.size + 1) 65 m.cells.toArray ∧ Blk wr w.heap.size 65 #[.int .u64 0, .int .i64 0, .int .i64 0, .int .i64 0, .int .i64 0] ∧ New w wr
theorem min_less {L : List Rn} {m : Rn} {k : Nat} (h : Minned (L.take k) m) (hk : k < L.length) (hd : L[k].d < m.d) : Minned (L.take (k + 1)) L[k] := by
  rw [List.take_succ_eq_append_getElem hk]
  refine ⟨List.mem_append_right _ (List.mem_singleton.2 rfl), fun x hx => ?_⟩
  rcases List.mem_append.1 hx with hx | hx
  · have := h.2 x hx; omega
  · rw [List.mem_singleton.1 hx]; omega
theorem min_more {L : List Rn} {m : Rn} {k : Nat} (h : Minned (L.take k) m) (hk : k < L.length) (hd : ¬ L[k].d < m.d) : Minned (L.take (k + 1)) m := by
  rw [List.take_succ_eq_append_getElem hk]
  refine ⟨List.mem_append_left _ h.1, fun x hx => ?_⟩
  rcases List.mem_append.1 hx with hx | hx
  · exact h.2 x hx
  · rw [List.mem_singleton.1 hx]; omega
set_option maxHeartbeats 4000000 in
theorem minf_any {p : Nat → Prop} (A : Option Addr) (n c : Nat) (L : List Rn) (w : World) (hR : Rd p w 5 A n (flat L)) (hF : ∀ r ∈ L, r.Fair) (h0 : 0 < n) (hn : n ≤ 1000) :
    Calls Try.prog 27 #[.slice A n c, .func (.func 28) #[] #[]] w fun e w' => (∃ m, Minned L m ∧ e = .returned (.agg #[.int .u64 m.n, .int .i64 m.b, .int .i64 m.d, .int .i64 m.l, .int .i64 m.s])) ∧ New w w' := by
  have hlen : L.length = n := by have := hR.1; rw [flat_len] at this; omega
  have HR := Lib.hid hR
  have HF := Lib.hid hF
  have HL := Lib.hid hlen
  have hcz : decide ((n : Int) < 1) = false := by simp; omega
  obtain ⟨g, o, hl, rfl, -, -, c0, c1, c2, c3, c4⟩ := rd_elem hR h0
  simp only [Nat.zero_mul, Nat.add_zero] at c0 c1 c2 c3 c4
  have h1 : Minned (L.take 1) L[0] := by
    rw [List.take_succ_eq_append_getElem hl]
    refine ⟨by simp, fun x hx => ?_⟩
    simp at hx
    rw [hx]; omega
  have HM := Lib.hid h1
  generalize L[0] = m0 at c0 c1 c2 c3 c4 HM
  have k0 : ∀ o', (w.alloc o').cell? ⟨g, o, none⟩ = some (.int .u64 m0.n) := fun o' => (New.al (New.refl w) o').cell_ c0
  have k1 : ∀ o', (w.alloc o').cell? ⟨g, o + 1, none⟩ = some (.int .i64 m0.b) := fun o' => (New.al (New.refl w) o').cell_ c1
  have k2 : ∀ o', (w.alloc o').cell? ⟨g, o + 2, none⟩ = some (.int .i64 m0.d) := fun o' => (New.al (New.refl w) o').cell_ c2
  have k3 : ∀ o', (w.alloc o').cell? ⟨g, o + 3, none⟩ = some (.int .i64 m0.l) := fun o' => (New.al (New.refl w) o').cell_ c3
  have k4 : ∀ o', (w.alloc o').cell? ⟨g, o + 4, none⟩ = some (.int .i64 m0.s) := fun o' => (New.al (New.refl w) o').cell_ c4
  clear hR hF hlen h1 hl c0 c1 c2 c3 c4
  go_enter Try.func27, Try.ntmps27
  go_wp2_with fail
  obtain ⟨w0, hw0⟩ : ∃ w0 : World, w0 = (w.alloc (.cells #[.int .u64 0, .int .i64 0, .int .i64 0, .int .i64 0, .int .i64 0] 65)).alloc (.cells #[.int .u64 m0.n, .int .i64 m0.b, .int .i64 m0.d, .int .i64 m0.l, .int .i64 m0.s] 65) := ⟨_, rfl⟩
  have HI0 : Hid (MI w L 1 w0) := Lib.hid ⟨m0, HM.out, by rw [hw0]; exact Blk.new' _ _ _ (by simp), by rw [hw0]; exact (Blk.new w _ _).alloc _, by rw [hw0]; exact New.al (New.al (New.refl w) _) _⟩
  rw [← hw0]
  clear hw0 k0 k1 k2 k3 k4 HM
  go_loopw [6] (fun i wr => ∃ k : Nat, 1 ≤ k ∧ k ≤ n ∧ i = .int .i64 k ∧ Hid (MI w L k wr)) (fun i _ => n - (intOf i).toNat)
  case atStart => exact ⟨1, by omega, by omega, rfl, HI0⟩
  case round =>
    obtain ⟨k, hk1, hk, rfl, HI⟩ := hrel
    obtain ⟨m, hM, hBm, hBr, hN⟩ := HI.out
    have m0' : wr.cell? ⟨w.heap.size + 1, 0, none⟩ = some (.int .u64 m.n) := hBm.cell 0
    have m1' : wr.cell? ⟨w.heap.size + 1, 1, none⟩ = some (.int .i64 m.b) := hBm.cell 1
    have m2' : wr.cell? ⟨w.heap.size + 1, 2, none⟩ = some (.int .i64 m.d) := hBm.cell 2
    have m3' : wr.cell? ⟨w.heap.size + 1, 3, none⟩ = some (.int .i64 m.l) := hBm.cell 3
    have m4' : wr.cell? ⟨w.heap.size + 1, 4, none⟩ = some (.int .i64 m.s) := hBm.cell 4
    by_cases hlt : k < n
    · as_aux_lemma =>
      obtain ⟨g2, o2, hl2, he2, -, -, hrg⟩ := rd_row (f := Rn.cells) (L := L) (fun _ => rfl) (by omega) (hN.rd HR.out) hlt
      injection he2 with he2
      injection he2 with he2 he3
      subst he2 he3
      obtain ⟨g', o', hl, he, -, -, c0, c1, c2, c3, c4⟩ := rd_elem (hN.rd HR.out) hlt
      injection he with he
      injection he with he he2
      subst he he2
      have hFx := HF.out L[k] (List.getElem_mem _)
      have hFm := HF.out m (List.mem_of_mem_take hM.1)
      have HML := Lib.hid (fun h => min_less hM hl h)
      have HMM := Lib.hid (fun h => min_more hM hl h)
      generalize L[k] = x at c0 c1 c2 c3 c4 hFx HML HMM hrg
      have hki : (0 : Int) ≤ (k : Int) := by omega
      have hkn : (k : Int) < (n : Int) := by omega
      have hS : ∀ w', New wr w' → w'.cell? ⟨g, o + k * 5, none⟩ = some (.int .u64 x.n) ∧ w'.cell? ⟨g, o + k * 5 + 1, none⟩ = some (.int .i64 x.b) ∧ w'.cell? ⟨g, o + k * 5 + 2, none⟩ = some (.int .i64 x.d) ∧ w'.cell? ⟨g, o + k * 5 + 3, none⟩ = some (.int .i64 x.l) ∧ w'.cell? ⟨g, o + k * 5 + 4, none⟩ = some (.int .i64 x.s) ∧
        w'.cell? ⟨w.heap.size + 1, 0, none⟩ = some (.int .u64 m.n) ∧ w'.cell? ⟨w.heap.size + 1, 1, none⟩ = some (.int .i64 m.b) ∧ w'.cell? ⟨w.heap.size + 1, 2, none⟩ = some (.int .i64 m.d) ∧ w'.cell? ⟨w.heap.size + 1, 3, none⟩ = some (.int .i64 m.l) ∧ w'.cell? ⟨w.heap.size + 1, 4, none⟩ = some (.int .i64 m.s) := fun w' h =>
        ⟨h.cell_ c0, h.cell_ c1, h.cell_ c2, h.cell_ c3, h.cell_ c4, h.cell_ m0', h.cell_ m1', h.cell_ m2', h.cell_ m3', h.cell_ m4'⟩
      have HFX := Lib.hid hFx
      have HFM := Lib.hid hFm
      have HBm := Lib.hid hBm
      have HBr := Lib.hid hBr
      have HN := Lib.hid hN
      have hb1 := hBm.lt
      have tokN : New wr wr.drew := New.dr (New.refl wr)
      have tok0 : New wr wr := New.refl wr
      clear hM hBm hBr hN HI hl hFx hFm
      go_wp2_with fail
      go_region_held3 (fun w' => w'.cell? ⟨g, o + k * 5, none⟩ = some (.int .u64 x.n) ∧ w'.cell? ⟨g, o + k * 5 + 1, none⟩ = some (.int .i64 x.b) ∧ w'.cell? ⟨g, o + k * 5 + 2, none⟩ = some (.int .i64 x.d) ∧ w'.cell? ⟨g, o + k * 5 + 3, none⟩ = some (.int .i64 x.l) ∧ w'.cell? ⟨g, o + k * 5 + 4, none⟩ = some (.int .i64 x.s) ∧
        w'.cell? ⟨w.heap.size + 1, 0, none⟩ = some (.int .u64 m.n) ∧ w'.cell? ⟨w.heap.size + 1, 1, none⟩ = some (.int .i64 m.b) ∧ w'.cell? ⟨w.heap.size + 1, 2, none⟩ = some (.int .i64 m.d) ∧ w'.cell? ⟨w.heap.size + 1, 3, none⟩ = some (.int .i64 m.l) ∧ w'.cell? ⟨w.heap.size + 1, 4, none⟩ = some (.int .i64 m.s))
        (first | exact hS _ hN6 | exact hS _ tokN | exact hS _ tok0)
        ((go_at_call 28; refine (cmpc_any x m HFX.out HFM.out _).mono ?_; rintro e w6 ⟨rfl, hN6'⟩; have hN6 : New wr w6 := tokN.tr hN6'; clear hN6'))
      have HB6 := Lib.hid (hN6.blk HBm.out)
      have HRG := Lib.hid (hN6.range hrg)
      have HR6 := Lib.hid (hN6.blk HBr.out)
      have HN6 := Lib.hid (HN.out.tr hN6)
      clear hS tokN tok0 hN6 hrg c0 c1 c2 c3 c4 m0' m1' m2' m3' m4'
      by_cases hd : x.d < m.d
      · have hdd : decide (x.d - m.d < 0) = true := decide_eq_true (by omega)
        have hdp : x.d - m.d < 0 := by omega
        have HD := Lib.hid hd
        clear hd
        go_wp2_with (first
          | ((with_reducible refine atOpS ⟨some 31, .load _ _, _, _, _, _⟩ ?_); refine row_load_at rowR rfl (.tmp 30) rfl rfl HRG.out rfl ?_)
          | ((with_reducible refine atOpS ⟨none, .store _ _ _, _, _, _, _⟩ ?_); refine row_store rowR rfl (.tmp 5) (.tmp 31) rfl rfl rfl HB6.out rfl rfl (rn_one x) ?_; intro w7 hB7 hF7; have HB7 := Lib.hid hB7; have HF7 := Lib.hid hF7; clear hB7 hF7))
        go_roundw
        case rel => exact ⟨k + 1, by omega, by omega, by go_num, Lib.hid ⟨x, HML.out HD.out, HB7.out, HR6.out.fr HF7.out (by omega), HN6.out.fr HF7.out (fun k hk => by omega)⟩⟩
        case measure => simp [intOf]; omega
      · have hdd : decide (x.d - m.d < 0) = false := decide_eq_false (by omega)
        have hdp : ¬ x.d - m.d < 0 := by omega
        have hdq : 0 ≤ x.d - m.d := by omega
        have HD := Lib.hid hd
        clear hd
        go_wp2_with fail
        go_roundw
        case rel => exact ⟨k + 1, by omega, by omega, by go_num, Lib.hid ⟨m, HMM.out (by have := HD.out; omega), HB6.out, HR6.out, HN6.out⟩⟩
        case measure => simp [intOf]; omega
    · as_aux_lemma =>
      obtain rfl : k = n := by omega
      rw [List.take_of_length_le (by rw [HL.out]; omega)] at hM
      have HM := Lib.hid hM
      have HN := Lib.hid hN
      have HBr := Lib.hid hBr
      have HBm := Lib.hid hBm
      clear hM hN hBm hBr HI m0' m1' m2' m3' m4'
      go_wp2_with (first
          | ((with_reducible refine atOpS ⟨some 32, .load _ _, _, _, _, _⟩ ?_); refine row_load rowR rfl (.tmp 5) rfl rfl HBm.out rfl ?_)
          | ((with_reducible refine atOpS ⟨none, .store _ _ _, _, _, _, _⟩ ?_); refine row_store rowR rfl (.tmp 4) (.tmp 32) rfl rfl rfl HBr.out rfl rfl (rn_one m) ?_; intro w7 hB7 hF7; have z0 := hB7.cell 0; have z1 := hB7.cell 1; have z2 := hB7.cell 2; have z3 := hB7.cell 3; have z4 := hB7.cell 4; have HB7 := Lib.hid hB7; have HF7 := Lib.hid hF7; clear hB7 hF7))
      simp [Rn.cells] at z0 z1 z2 z3 z4
      refine bodyPost_ret (v := .agg #[.int .u64 m.n, .int .i64 m.b, .int .i64 m.d, .int .i64 m.l, .int .i64 m.s]) (by simp [results, Try.results27, go_sem, z0, z1, z2, z3, z4]) rfl ⟨⟨m, HM.out, rfl⟩, ?_⟩
      exact HN.out.fr HF7.out (fun k hk => by omega)

def NextEnd (L : List Rn) (e : Ending) : Prop := (L = [] ∧ e = .returned (.tuple #[.int .i64 0, .bool false])) ∨ (∃ m, Minned L m ∧ e = .returned (.tuple #[.int .i64 m.d, .bool true]))
theorem run_field2 (m : Rn) (w : World) : (Instr.field 65 (.agg #[.int .u64 m.n, .int .i64 m.b, .int .i64 m.d, .int .i64 m.l, .int .i64 m.s]) 2).run Try.prog w = .ok (.int .i64 m.d) w := by kernel_rfl
theorem next_any (base g : Nat) (v : Value) (L : List Rn) (least most limit : Int) (mean : Nat) (w : World) (hT : Tm w base g v L least most limit mean) (hF : ∀ r ∈ L, r.Fair) :
    Calls Try.prog 12 #[.pointer (some ⟨g, 0, none⟩)] w fun e w' => NextEnd L e ∧ New w w' := by
  obtain ⟨A, c, rfl, hnc, hcm, -, -⟩ := own_shape hT.2.2.1
  have h4 : w.cell? ⟨g, 4, none⟩ = some (.slice A L.length c) := hT.2.1.cell 4
  have HR := Lib.hid (Rd.own hT.2.2.1 rfl)
  have HF := Lib.hid hF
  have hlen := hT.2.2.2
  clear hT hF
  rcases L with _ | ⟨x, L⟩
  · go_enter Try.func12, Try.ntmps12
    go_wp2_with fail
    go_ret2
    exact ⟨Or.inl ⟨rfl, rfl⟩, New.refl _⟩
  · generalize hLL : x :: L = M at *
    have h0 : 0 < M.length := by rw [← hLL]; simp
    have hz : ((M.length : Int) == 0) = false := beq_eq_false_iff_ne.2 (by omega)
    have HN : Hid (M ≠ []) := Lib.hid (by rw [← hLL]; simp)
    clear hLL
    go_enter Try.func12, Try.ntmps12
    go_wp2_with fail
    refine (minf_any A M.length c M w HR.out HF.out h0 hlen).mono ?_
    rintro e w1 ⟨⟨m, hm, rfl⟩, hN1⟩
    have HM := Lib.hid hm
    have HN1 := Lib.hid hN1
    have hfd := run_field2 m
    clear hm hN1
    go_wp2_with fail
    go_ret2
    exact ⟨Or.inr ⟨m, HM.out, rfl⟩, HN1.out⟩
end Go.Proofs.Ytbgjoohnognagaa
