/- Timers: Start, Due. No condition but the timer's own. -/
import Derived.Test.YtbgjoohnognagaaTmB
import Derived.Test.YtbgjoohnognagaaWide
import Derived.WalkMore
import Derived.Deep.DeepCutAuto
namespace Go.Proofs.Ytbgjoohnognagaa
open Go.RowKit

theorem start_nil (a now : Int) (w : World) : Calls Try.prog 8 #[.pointer none, .int .u64 a, .int .i64 now] w fun e w' => e = .returned (.bool false) ∧ New w w' := by
  go_enter Try.func8, Try.ntmps8
  go_wp2_with fail
  go_ret
  exact ⟨rfl, New.refl w⟩
theorem start_no (base g : Nat) (v : Value) (L : List Rn) (least most limit : Int) (mean : Nat) (a now : Int) (w : World) (hT : Tm w base g v L least most limit mean) (i : Nat) (hp : place L a = some i) :
    Calls Try.prog 8 #[.pointer (some ⟨g, 0, none⟩), .int .u64 a, .int .i64 now] w fun e w' => e = .returned (.bool false) ∧ New w w' := by
  have HQ := Lib.hid (placeI_some hp)
  have HT := Lib.hid hT
  clear hp hT
  go_enter Try.func8, Try.ntmps8
  go_wp2_with fail
  refine (place_any base g v L least most limit mean a w HT.out).mono ?_
  rw [HQ.out]
  rintro e w1 ⟨rfl, hb1⟩
  go_wp2_with fail
  go_ret
  exact ⟨rfl, hb1⟩
theorem start_yes (base g : Nat) (v : Value) (L : List Rn) (least most limit : Int) (mean : Nat) (a now r : Int) (w : World) (hT : Tm w base g v L least most limit mean) (hp : place L a = none)
    (hr : TickR mean least most r) (h1 : 1 ≤ least) (h3 : most ≤ 65536) (hlen : L.length < 1000) :
    Calls Try.prog 8 #[.pointer (some ⟨g, 0, none⟩), .int .u64 a, .int .i64 now] w fun e w' => e = .returned (.bool true) ∧
      ∃ v', Tm w' base g v' (L ++ [⟨a, tickZ now, tickZ now + r, r, 1⟩]) least most limit mean ∧ Fr (fun k => k = g ∨ v.ownBlock = some k) w w' ∧ (∀ k, v'.ownBlock = some k → v.ownBlock = some k ∨ w.heap.size ≤ k) := by
  have HQ := Lib.hid (placeI_none hp)
  have HT := Lib.hid hT
  have hr1 := hr.2.1
  have hr2 := hr.2.2
  have HR := Lib.hid hr
  have ht := tickZ_in now
  have htc := tick_any now
  generalize tickZ now = tk at ht htc ⊢
  have HTC := Lib.hid htc
  clear hp hT hr htc
  go_enter Try.func8, Try.ntmps8
  go_wp2_with fail
  refine (place_any base g v L least most limit mean a w HT.out).mono ?_
  rw [HQ.out]
  rintro e w1 ⟨rfl, hb1⟩
  have HN1 : Hid (New w w1) := Lib.hid hb1
  go_wp2_with (go_at_call 26; refine (HTC.out _).mono ?_; rintro e w2 ⟨rfl, rfl⟩)
  refine (interval_any base g v L least most limit mean r w1 (HT.out.new HN1.out) HR.out).mono ?_
  rintro e w2 ⟨rfl, hN2⟩
  have HN2 : Hid (New w w2) := Lib.hid (HN1.out.tr hN2)
  clear hN2 hb1
  have hT2 := HT.out.new HN2.out
  obtain ⟨A, c, rfl, hnc, hcm, -, -⟩ := own_shape hT2.2.2.1
  have i4 : w2.cell? ⟨g, 4, none⟩ = some (.slice A L.length c) := hT2.2.1.cell 4
  have hng := hT2.ne
  have HB2 := Lib.hid hT2.2.1
  have HO2 := Lib.hid hT2.2.2.1
  have hbase : base ≤ w2.heap.size := by have := hT2.2.1.lt; have := hT2.1; omega
  have HT2 := Lib.hid hT2
  have HNG := Lib.hid hng
  clear hT2 hng
  go_wp2_with (at_builtin; refine wpList_app elR _ rfl (.tmp 24) (.tmp 32) rfl base (.slice A L.length c) L.length (flat L) rfl (New.own (New.al (New.refl w2) _) HO2.out) (some ⟨w2.heap.size, 0, none⟩) 1 1 [.int .u64 a, .int .i64 tk, .int .i64 (tk + r), .int .i64 r, .int .i64 1] rfl (Rd.ofBlk (p := fun _ => True) (t := 65) (cs := #[.int .u64 a, .int .i64 tk, .int .i64 (tk + r), .int .i64 r, .int .i64 1]) (Blk.new' _ _ _ rfl) 5 1 rfl trivial) (by simp [Value.oneCell']) (by unfold maxLen; omega) (by omega) (by simp; omega) ?_; intro A' c' w3 hO3 hF3 hA3; have hB3 := (HB2.out.alloc _).fr hF3 (fun e => HNG.out _ e rfl); have m4 := hB3.cell 4; have q4 := hB3.frozen 4; have HB3 := Lib.hid hB3; have HO3 := Lib.hid hO3; have HF3 := Lib.hid hF3; have HA3 := Lib.hid hA3; clear hB3 hO3 hF3 hA3)
  go_ret
  have hnew : ∀ k, (Value.slice A' (L.length + 1) c').ownBlock = some k → ¬ k = g := fun k hk e => by
    rcases HA3.out k hk with h | h
    · exact HNG.out k h e
    · have := HB2.out.lt; simp at h; omega
  refine ⟨rfl, .slice A' (L.length + 1) c', ⟨HT2.out.1, HB3.out.set 4 _, ?_, by simp; omega⟩, ?_, fun k hk => ?_⟩
  · rw [flat_app, flat_one, List.length_append]
    exact own_fr HO3.out ((Fr.refl (fun k => k = g) _).setCell (p := ⟨g, 4, none⟩) (fun _ => rfl) _) hnew
  · refine ((HN2.out.toFr _).trans' (((Fr.refl (fun k => k = g ∨ (Value.slice A L.length c).ownBlock = some k) _).alloc _).trans (HF3.out.mono fun b _ h => Or.inr h)) (fun _ _ h => h)).setCell (fun _ => Or.inl rfl) _
  · rcases HA3.out k hk with h | h
    · exact .inl h
    · have := HN2.out.size; simp at h; exact .inr (by omega)

theorem elU : ElemOf Try.prog 32 31 1 8 := ElemOf.mk' (z := .int .u64 0) Try.underlying32 (by kernel_rfl) rfl (by decide)
theorem u64s_one (xs : List Int) : ∀ u ∈ u64s xs, u.oneCell' = true := by
  intro u hu
  simp only [u64s, List.mem_map] at hu
  obtain ⟨x, _, rfl⟩ := hu
  rfl
theorem own_apart {w : World} {b1 b2 e1 e2 s1 s2 n1 n2 : Nat} {v1 v2 : Value} {x1 x2 : List Value} (h1 : w.ownsRow b1 e1 s1 v1 n1 x1) (h2 : w.ownsRow b2 e2 s2 v2 n2 x2) (hne : e1 ≠ e2) (k : Nat) (hk : v1.ownBlock = some k) : ¬ v2.ownBlock = some k := by
  rcases h1.2 with ⟨rfl, _⟩ | ⟨g, cap, cur, rfl, _, hh, _⟩
  · cases hk
  · obtain rfl : g = k := by simpa [Value.ownBlock] using hk
    exact own_ne h2 (t := e1) hh (fun e => hne e.symm)
theorem u64s_app (xs : List Int) (x : Int) : u64s (xs ++ [x]) = u64s xs ++ [.int .u64 x] := by simp [u64s]
theorem due_nil (now : Int) (w : World) : Calls Try.prog 9 #[.pointer none, .int .i64 now] w fun e w' => e = .returned (.tuple #[.slice none 0 0, .slice none 0 0]) ∧ New w w' := by
  go_enter Try.func9, Try.ntmps9
  go_wp2_with fail
  go_step3
  go_wp2_with fail
  rw [Exit.noGoto_ret]
  go_ret2
  exact ⟨rfl, New.refl w⟩

set_option maxHeartbeats 4000000 in
theorem due_any (base g : Nat) (v : Value) (L : List Rn) (least most limit : Int) (mean : Nat) (now : Int) (w : World) (hT : Tm w base g v L least most limit mean) (hF : ∀ r ∈ L, r.Fair) (h3 : most ≤ 65536) (h0 : 1 ≤ most) :
    Calls Try.prog 9 #[.pointer (some ⟨g, 0, none⟩), .int .i64 now] w fun e w' => ∃ va vt vl, e = .returned (.tuple #[va, vt]) ∧ Tm w' base g vl (dues (tickZ now) most limit L).left least most limit mean ∧
      w'.ownsRow w.heap.size 31 1 va (dues (tickZ now) most limit L).again.length (u64s (dues (tickZ now) most limit L).again) ∧ w'.ownsRow w.heap.size 31 1 vt (dues (tickZ now) most limit L).late.length (u64s (dues (tickZ now) most limit L).late) ∧
      Fr (fun k => k = g) w w' ∧ (∀ k, vl.ownBlock = some k → w.heap.size ≤ k) := by
  have ht := tickZ_in now
  have htc := tick_any now
  generalize tickZ now = tk at ht htc ⊢
  have HTC := Lib.hid htc
  have HT := Lib.hid hT
  have HFA := Lib.hid hF
  have hlen := hT.2.2.2
  obtain ⟨A, c, rfl, hnc, hcm, -, -⟩ := own_shape hT.2.2.1
  have HR := Lib.hid (Rd.own hT.2.2.1 rfl)
  have c1 : w.cell? ⟨g, 1, none⟩ = some (.int .i64 most) := hT.2.1.cell 1
  have c2 : w.cell? ⟨g, 2, none⟩ = some (.int .i64 limit) := hT.2.1.cell 2
  have c4 : w.cell? ⟨g, 4, none⟩ = some (.slice A L.length c) := hT.2.1.cell 4
  clear hT hF htc
  go_enter Try.func9, Try.ntmps9
  go_wp2_with fail
  go_step3
  go_wp2_with (go_at_call 26; refine (HTC.out _).mono ?_; rintro e w2 ⟨rfl, rfl⟩)
  go_step3
  go_wp2_with fail
  go_loopw [4, 5, 6, 18] (fun o p q i wr => ∃ (k : Nat) (va vt vl : Value), k ≤ L.length ∧ i = .int .i64 k ∧ o = va ∧ p = vt ∧ q = vl ∧
      Hid (wr.ownsRow w.heap.size 31 1 va (dues tk most limit (L.take k)).again.length (u64s (dues tk most limit (L.take k)).again)) ∧ Hid (wr.ownsRow w.heap.size 31 1 vt (dues tk most limit (L.take k)).late.length (u64s (dues tk most limit (L.take k)).late)) ∧
      Hid (wr.ownsRow w.heap.size 65 5 vl (dues tk most limit (L.take k)).left.length (flat (dues tk most limit (L.take k)).left)) ∧ Hid (∀ b, va.ownBlock = some b → ¬ vt.ownBlock = some b) ∧ Hid (New w wr)) (fun _ _ _ i _ => L.length - (intOf i).toNat)
  case atStart => exact ⟨0, .slice none 0 0, .slice none 0 0, .slice none 0 0, Nat.zero_le _, rfl, rfl, rfl, rfl, Lib.hid (World.ownsRow_nil _ _ _ _), Lib.hid (World.ownsRow_nil _ _ _ _), Lib.hid (World.ownsRow_nil _ _ _ _), Lib.hid (by intro b h; cases h), Lib.hid (New.refl w)⟩
  case round =>
    obtain ⟨k, va, vt, vl, hk, rfl, rfl, rfl, rfl, HOa, HOt, HOl, HD, HN⟩ := hrel
    obtain ⟨Aa, ca, rfl, -, -, -, -⟩ := own_shape HOa.out
    obtain ⟨At, ct, rfl, -, -, -, -⟩ := own_shape HOt.out
    obtain ⟨Al, cl, rfl, -, -, -, -⟩ := own_shape HOl.out
    by_cases hlt : k < L.length
    · obtain ⟨g', o, hl, rfl, -, -, e0, e1, e2, e3, e4⟩ := rd_elem (HN.out.rd HR.out) hlt
      have HTK : Hid (dues tk most limit (L.take (k + 1)) = dueStep tk most limit (dues tk most limit (L.take k)) L[k]) := Lib.hid (by rw [List.take_succ_eq_append_getElem hl, dues_snoc])
      have hfair := HFA.out _ (List.getElem_mem hl)
      have hdl := dues_len tk most limit (L.take k)
      have htl := List.length_take_le k L
      generalize hx : L[k] = x at e0 e1 e2 e3 e4 hfair HTK
      generalize dues tk most limit (L.take k) = D at HOa HOt HOl HTK hdl HD ⊢
      obtain ⟨xn, xb, xd, xl, xs⟩ := x
      obtain ⟨f1, f2, f3, f4, f5, f6, f7, f8⟩ := hfair
      simp only at e0 e1 e2 e3 e4 f1 f2 f3 f4 f5 f6 f7 f8
      clear hx
      have hxs : xs + 1 ≤ 9223372036854775807 := by omega
      by_cases hw : tk < xd
      · have HST := Lib.hid (dues_wait (now := tk) (most := most) (limit := limit) (a := D) (r := ⟨xn, xb, xd, xl, xs⟩) hw)
        have HNW : Hid (New w wr) := HN
        go_wp2_with (at_builtin; refine wpList_app (o := ⟨some 30, _, _, _, _, _⟩) elR _ rfl (.tmp 27) (.tmp 29) rfl w.heap.size (.slice Al D.left.length cl) D.left.length (flat D.left) rfl (New.own (New.al (New.al (New.refl wr) _) _) HOl.out) (some ⟨wr.heap.size + 1, 0, none⟩) 1 1 [.int .u64 xn, .int .i64 xb, .int .i64 xd, .int .i64 xl, .int .i64 xs] rfl (Rd.ofBlk (p := fun _ => True) (t := 65) (cs := #[.int .u64 xn, .int .i64 xb, .int .i64 xd, .int .i64 xl, .int .i64 xs]) (Blk.new' _ _ _ (by simp)) 5 1 rfl trivial) (by simp [Value.oneCell']) (by unfold maxLen; omega) (by omega) (by simp; have := HN.out.size; have := HNW.out.size; omega) ?_; intro A6 d6 w6 hO6 hF6 hA6; have HO6 := Lib.hid hO6; have HF6 : Hid (Fr (fun k' => (Value.slice Al D.left.length cl).ownBlock = some k') wr w6) := Lib.hid ((((Fr.refl _ wr).alloc _).alloc _).trans hF6); clear hO6 hF6 hA6)
        go_roundw
        case rel =>
          refine ⟨k + 1, _, _, _, by omega, by go_num, rfl, rfl, rfl, Lib.hid ?_, Lib.hid ?_, Lib.hid ?_, ?_, Lib.hid (HN.out.fr HF6.out (fun k' hk' => (own_lt HOl.out k' hk').1))⟩
          · rw [HTK.out, HST.out]; exact own_fr HOa.out HF6.out (own_apart HOa.out HOl.out (by decide))
          · rw [HTK.out, HST.out]; exact own_fr HOt.out HF6.out (own_apart HOt.out HOl.out (by decide))
          · rw [HTK.out, HST.out, List.length_append, flat_app, flat_one]; exact HO6.out
          · exact HD
        case measure => simp [intOf]; omega
      by_cases hla : limit ≤ xs
      · have HST := Lib.hid (dues_late (now := tk) (most := most) (limit := limit) (a := D) (r := ⟨xn, xb, xd, xl, xs⟩) hw hla)
        have i1 : wr.cell? ⟨g, 1, none⟩ = some (.int .i64 most) := HN.out.cell_ c1
        have i2 : wr.cell? ⟨g, 2, none⟩ = some (.int .i64 limit) := HN.out.cell_ c2
        have hgl : g < wr.heap.size := World.block_lt_of_cell? wr ⟨g, 1, none⟩ i1
        have hmin := fun w => run_minI (2 * xl) most w
        have hlg : (if most < 2 * xl then most else 2 * xl) = longer ⟨xn, xb, xd, xl, xs⟩ most := rfl
        have hlb : 0 ≤ longer ⟨xn, xb, xd, xl, xs⟩ most ∧ longer ⟨xn, xb, xd, xl, xs⟩ most ≤ 65536 := by unfold longer; simp only; split <;> omega
        rw [hlg] at hmin
        generalize hlo : longer ⟨xn, xb, xd, xl, xs⟩ most = lo at hmin hlb
        have HLO := Lib.hid hlo
        clear hlg hlo c1 c2
        go_wp2_with fail
        clear e0 e1 e2 e3 e4
        obtain ⟨w3, hw3⟩ : ∃ w3 : World, w3 = wr.alloc (.cells #[.int .u64 xn, .int .i64 xb, .int .i64 xd, .int .i64 xl, .int .i64 xs] 65) := ⟨_, rfl⟩
        have hB3 : Blk w3 wr.heap.size 65 #[.int .u64 xn, .int .i64 xb, .int .i64 xd, .int .i64 xl, .int .i64 xs] := by rw [hw3]; exact Blk.new _ _ _
        have HN3 : Hid (New wr w3) := Lib.hid (by rw [hw3]; exact New.al (New.refl _) _)
        rw [← hw3]
        clear hw3
        have b0 := hB3.cell 0
        have b3 := hB3.cell 3
        have b4 := hB3.cell 4
        have b2 := hB3.cell 2
        have q2 := hB3.frozen 2
        have q3 := hB3.frozen 3
        have q4 := hB3.frozen 4
        have j1 := HN3.out.cell_ i1
        have j2 := HN3.out.cell_ i2
        have HB3 := Lib.hid hB3
        clear hB3 i1 i2
        have HN3w : Hid (New w w3) := Lib.hid (HN.out.tr HN3.out)
        have HOa3 := Lib.hid (HN3.out.own HOa.out)
        have HOt3 := Lib.hid (HN3.out.own HOt.out)
        have HOl3 := Lib.hid (HN3.out.own HOl.out)
        go_region
        go_wp2_with (at_builtin; refine wpList_app (o := ⟨some 43, _, _, _, _, _⟩) elU _ rfl (.tmp 39) (.tmp 42) rfl w.heap.size (.slice At D.late.length ct) D.late.length (u64s D.late) rfl (New.own (New.dr (New.al (New.refl w3) _)) HOt3.out) (some ⟨w3.heap.size, 0, none⟩) 1 1 [.int .u64 xn] rfl (Rd.ofBlk (p := fun _ => True) (t := 31) (cs := #[.int .u64 xn]) (Blk.drew (Blk.new' _ _ _ (by simp))) 1 1 rfl trivial) (by simp [Value.oneCell']) (by unfold maxLen; omega) (by omega) (by simp; have := HN3w.out.size; omega) ?_; intro A6 d6 w6 hO6 hF6 hA6; have HO6 := Lib.hid hO6; have HA6 := Lib.hid hA6; have HF6 : Hid (Fr (fun k' => (Value.slice At D.late.length ct).ownBlock = some k') w3 w6) := Lib.hid ((((Fr.refl _ w3).alloc _).drew).trans hF6); clear hO6 hF6 hA6)
        go_roundw
        case rel =>
          refine ⟨k + 1, _, _, _, by omega, by go_num, rfl, rfl, rfl, Lib.hid ?_, Lib.hid ?_, Lib.hid ?_, Lib.hid ?_, Lib.hid (HN3w.out.fr HF6.out (fun k' hk' => (own_lt HOt3.out k' hk').1))⟩
          · rw [HTK.out, HST.out]; exact own_fr HOa3.out HF6.out HD.out
          · rw [HTK.out, HST.out, List.length_append, u64s_app]; exact HO6.out
          · rw [HTK.out, HST.out]; exact own_fr HOl3.out HF6.out (own_apart HOl3.out HOt3.out (by decide))
          · intro b hb hb6
            rcases HA6.out b hb6 with h' | h'
            · exact HD.out b hb h'
            · have := (own_lt HOa3.out b hb).2; simp at h'; omega
        case measure => simp [intOf]; omega
      have i1 : wr.cell? ⟨g, 1, none⟩ = some (.int .i64 most) := HN.out.cell_ c1
      have i2 : wr.cell? ⟨g, 2, none⟩ = some (.int .i64 limit) := HN.out.cell_ c2
      have hgl : g < wr.heap.size := World.block_lt_of_cell? wr ⟨g, 1, none⟩ i1
      have hmin := fun w => run_minI (2 * xl) most w
      have hlg : (if most < 2 * xl then most else 2 * xl) = longer ⟨xn, xb, xd, xl, xs⟩ most := rfl
      have hlb : 0 ≤ longer ⟨xn, xb, xd, xl, xs⟩ most ∧ longer ⟨xn, xb, xd, xl, xs⟩ most ≤ 65536 := by unfold longer; simp only; split <;> omega
      rw [hlg] at hmin
      generalize hlo : longer ⟨xn, xb, xd, xl, xs⟩ most = lo at hmin hlb
      have HLO := Lib.hid hlo
      clear hlg hlo c1 c2
      have HST : Hid (dueStep tk most limit D ⟨xn, xb, xd, xl, xs⟩ = ⟨D.left ++ [⟨xn, xb, tk + lo, lo, xs + 1⟩], D.again ++ [xn], D.late⟩) := Lib.hid (by rw [dues_again hw hla]; unfold nextRun; rw [HLO.out])
      go_wp2_with fail
      clear e0 e1 e2 e3 e4
      obtain ⟨w3, hw3⟩ : ∃ w3 : World, w3 = wr.alloc (.cells #[.int .u64 xn, .int .i64 xb, .int .i64 xd, .int .i64 xl, .int .i64 xs] 65) := ⟨_, rfl⟩
      have hB3 : Blk w3 wr.heap.size 65 #[.int .u64 xn, .int .i64 xb, .int .i64 xd, .int .i64 xl, .int .i64 xs] := by rw [hw3]; exact Blk.new _ _ _
      have HN3 : Hid (New wr w3) := Lib.hid (by rw [hw3]; exact New.al (New.refl _) _)
      rw [← hw3]
      clear hw3
      have b0 := hB3.cell 0
      have b3 := hB3.cell 3
      have b4 := hB3.cell 4
      have b2 := hB3.cell 2
      have q2 := hB3.frozen 2
      have q3 := hB3.frozen 3
      have q4 := hB3.frozen 4
      have j1 := HN3.out.cell_ i1
      have j2 := HN3.out.cell_ i2
      have HB3 := Lib.hid hB3
      clear hB3 i1 i2
      go_region
      go_wp2_with fail
      go_region
      go_upto_region 15 with fail
      obtain ⟨w5, hw5⟩ : ∃ w5 : World, w5 = (((w3.setCell ⟨wr.heap.size, 4, none⟩ (.int .i64 (xs + 1))).setCell ⟨wr.heap.size, 3, none⟩ (.int .i64 lo)).setCell ⟨wr.heap.size, 2, none⟩ (.int .i64 (tk + lo))).drew.drew := ⟨_, rfl⟩
      have hB5 : Blk w5 wr.heap.size 65 #[.int .u64 xn, .int .i64 xb, .int .i64 (tk + lo), .int .i64 lo, .int .i64 (xs + 1)] := by
        rw [hw5]
        have h := ((HB3.out.set 4 (.int .i64 (xs + 1))).set 3 (.int .i64 lo)).set 2 (.int .i64 (tk + lo))
        simp at h
        exact h.drew.drew
      have HN5 : Hid (New wr w5) := Lib.hid (by rw [hw5]; exact New.dr (New.dr (((HN3.out.set (Nat.le_refl _) _).set (Nat.le_refl _) _).set (Nat.le_refl _) _)))
      rw [← hw5]
      clear hw5 b0 b2 b3 b4 q2 q3 q4 j1 j2
      have HN5w : Hid (New w w5) := Lib.hid (HN.out.tr HN5.out)
      have HOa5 := Lib.hid (HN5.out.own HOa.out)
      have HOt5 := Lib.hid (HN5.out.own HOt.out)
      have HOl5 := Lib.hid (HN5.out.own HOl.out)
      have HB5 := Lib.hid hB5
      have b0 := hB5.cell 0
      clear hB5
      go_wp2_with (first
        | (at_builtin; refine wpList_app (o := ⟨some 66, _, _, _, _, _⟩) elU _ rfl (.tmp 62) (.tmp 65) rfl w.heap.size (.slice Aa D.again.length ca) D.again.length (u64s D.again) rfl (New.own (New.al (New.refl w5) _) HOa5.out) (some ⟨w5.heap.size, 0, none⟩) 1 1 [.int .u64 xn] rfl (Rd.ofBlk (p := fun _ => True) (t := 31) (cs := #[.int .u64 xn]) (Blk.new' _ _ _ (by simp)) 1 1 rfl trivial) (by simp [Value.oneCell']) (by unfold maxLen; omega) (by omega) (by simp; have := HN5w.out.size; omega) ?_; intro A6 d6 w6 hO6 hF6 hA6; have HO6 := Lib.hid hO6; have HA6 := Lib.hid hA6; have HF6 : Hid (Fr (fun k' => (Value.slice Aa D.again.length ca).ownBlock = some k') w5 w6) := Lib.hid (((Fr.refl _ w5).alloc _).trans hF6); have hB6 := HB5.out.fr HF6.out (fun h => Nat.lt_irrefl _ (own_lt HOa.out _ h).2); have m0 := hB6.cell 0; have m1 := hB6.cell 1; have m2 := hB6.cell 2; have m3 := hB6.cell 3; have m4 := hB6.cell 4; have HN6w : Hid (New w w6) := Lib.hid (HN5w.out.fr HF6.out (fun k' hk' => (own_lt HOa5.out k' hk').1)); have HOl6 := Lib.hid (own_fr HOl5.out HF6.out (own_apart HOl5.out HOa5.out (by decide))); have HOt6 := Lib.hid (own_fr HOt5.out HF6.out (fun b hb h => HD.out b h hb)); clear hO6 hF6 hA6 hB6)
        | (at_builtin; refine wpList_app (o := ⟨some 70, _, _, _, _, _⟩) elR _ rfl (.tmp 67) (.tmp 69) rfl w.heap.size (.slice Al D.left.length cl) D.left.length (flat D.left) rfl (New.own (New.al (New.refl w6) _) HOl6.out) (some ⟨w6.heap.size, 0, none⟩) 1 1 [.int .u64 xn, .int .i64 xb, .int .i64 (tk + lo), .int .i64 lo, .int .i64 (xs + 1)] rfl (Rd.ofBlk (p := fun _ => True) (t := 65) (cs := #[.int .u64 xn, .int .i64 xb, .int .i64 (tk + lo), .int .i64 lo, .int .i64 (xs + 1)]) (Blk.new' _ _ _ (by simp)) 5 1 rfl trivial) (by simp [Value.oneCell']) (by unfold maxLen; omega) (by omega) (by simp; have := HN6w.out.size; omega) ?_; intro A7 d7 w7 hO7 hF7 hA7; have HO7 := Lib.hid hO7; have HF7 : Hid (Fr (fun k' => (Value.slice Al D.left.length cl).ownBlock = some k') w6 w7) := Lib.hid (((Fr.refl _ w6).alloc _).trans hF7); clear hO7 hF7 hA7))
      go_roundw
      case rel =>
        refine ⟨k + 1, _, _, _, by omega, by go_num, rfl, rfl, rfl, Lib.hid ?_, Lib.hid ?_, Lib.hid ?_, Lib.hid ?_, Lib.hid (HN6w.out.fr HF7.out (fun k' hk' => (own_lt HOl6.out k' hk').1))⟩
        · rw [HTK.out, HST.out, List.length_append, u64s_app]; exact own_fr HO6.out HF7.out (own_apart HO6.out HOl6.out (by decide))
        · rw [HTK.out, HST.out]; exact own_fr HOt6.out HF7.out (own_apart HOt6.out HOl6.out (by decide))
        · rw [HTK.out, HST.out, List.length_append, flat_app, flat_one]; exact HO7.out
        · intro b hb hbt
          rcases HA6.out b hb with h' | h'
          · exact HD.out b h' hbt
          · have := (own_lt HOt5.out b hbt).2; simp at h'; omega
      case measure => simp [intOf]; omega
    · obtain rfl : k = L.length := by omega
      have hlk : L.take L.length = L := List.take_length ..
      have hdl := dues_len tk most limit L
      rw [hlk] at HOa HOt HOl HD ⊢
      have i4 : wr.cell? ⟨g, 4, none⟩ = some (.slice A L.length c) := HN.out.cell_ c4
      have hB := HN.out.blk HT.out.2.1
      have q4 := hB.frozen 4
      have HB := Lib.hid hB
      have hgb := HT.out.2.1.lt
      clear hB c1 c2 c4 hlk
      go_wp2_with fail
      rw [Exit.noGoto_ret]
      go_ret2
      refine ⟨_, _, _, rfl, ⟨HT.out.1, HB.out.set 4 _, ?_, by omega⟩, ?_, ?_, ?_, ?_⟩
      · exact own_base (own_fr HOl.out ((Fr.refl (fun k => k = g) wr).setCell (p := ⟨g, 4, none⟩) (fun _ => rfl) _) (fun k hk e => by have := (own_lt HOl.out k hk).1; omega)) (fun k hk => by have := (own_lt HOl.out k hk).1; have := HT.out.1; omega)
      · exact own_fr HOa.out ((Fr.refl (fun k => k = g) wr).setCell (p := ⟨g, 4, none⟩) (fun _ => rfl) _) (fun k hk e => by have := (own_lt HOa.out k hk).1; omega)
      · exact own_fr HOt.out ((Fr.refl (fun k => k = g) wr).setCell (p := ⟨g, 4, none⟩) (fun _ => rfl) _) (fun k hk e => by have := (own_lt HOt.out k hk).1; omega)
      · exact (HN.out.toFr (fun k => k = g)).setCell (p := ⟨g, 4, none⟩) (fun _ => rfl) _
      · exact fun k hk => (own_lt HOl.out k hk).1
end Go.Proofs.Ytbgjoohnognagaa
