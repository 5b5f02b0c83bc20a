/- Texts of one proof, one behind the other: KvI, KvJ, KvK, KvL, KvM. No condition but each one's own. -/
import Derived.Test.YtfhinmjpokollaaKvBatchesM5
import Derived.Laws.IdiomStrings
/- A string's bytes, as memory. No condition. -/
namespace Go.Proofs.Ytfhinmjpokollaa
set_option linter.unusedVariables false
set_option linter.unusedSimpArgs false
set_option linter.constructorNameAsVariable false
open Go.RowKit Go.Maps Go.Sort

theorem conv_back (xs : List Int) (hb : Byt xs) (w : World) : ∃ (c : Nat) (w' : World), (convert 9 39 (.string (strOfNums xs))).run Try.prog w = .ok (.slice (some ⟨w.heap.size, 0, none⟩) xs.length c) w' ∧ New w w' ∧ Rd (fun k => k = w.heap.size) w' 1 (some ⟨w.heap.size, 0, none⟩) xs.length (u8s xs) := by
  have h := Go.run_bytes_of_string (P := Try.prog) w 9 39 5 (strOfNums xs) Try.underlying9 Try.underlying39 Try.underlying5
  rw [strOfNums_size] at h
  refine ⟨_, _, h, New.al (New.dr (New.refl w)) _, u8s_len xs ▸ by omega, fun _ => ⟨_, rfl, rfl, by simp, fun j u hu => ?_⟩⟩
  have hj : j < xs.length := by
    have := (List.getElem?_eq_some_iff.1 hu).1
    rwa [u8s_len] at this
  have hx := hb _ (List.getElem_mem hj)
  have hu' : u = .int .u8 xs[j] := by
    unfold u8s at hu
    rw [List.getElem?_map, List.getElem?_eq_getElem hj] at hu
    simpa using hu.symm
  subst hu'
  have hd : (strOfNums xs).data[j]? = some (UInt8.ofNat xs[j].toNat) := by
    have h1 := strs_of (xs := xs)
    have h2 : (strOfNums xs).data.toList[j]? = some (UInt8.ofNat xs[j].toNat) := by
      rw [h1, List.getElem?_map, List.getElem?_eq_getElem hj]
      rfl
    rwa [Array.getElem?_toList] at h2
  have hds : j < (strOfNums xs).data.size := (Array.getElem?_eq_some_iff.1 hd).1
  have hcs : (bytesRow (strOfNums xs) (grownCap w xs.length 0 5))[j]? = some (.int .u8 xs[j]) := by
    unfold bytesRow
    rw [Array.getElem?_append_left (by simpa using hds), Array.getElem?_map, hd]
    have : ((UInt8.ofNat xs[j].toNat).toNat : Int) = xs[j] := by
      rw [UInt8.toNat_ofNat']
      omega
    simp only [Option.map_some, this]
  generalize bytesRow (strOfNums xs) (grownCap w xs.length 0 5) = cs at hcs
  have hW : (w.drew.alloc (.cells cs 5 (cs.size, cs.size + 1))).heap[w.heap.size]? = some (.cells cs 5 (cs.size, cs.size + 1)) := by
    show (w.heap.push _)[w.heap.size]? = _
    simp
  rw [add_own]
  simp only [World.cell?, hW]
  simpa using hcs
end Go.Proofs.Ytfhinmjpokollaa
/- Two live tables that have the same: Same says so. No condition but that the tables can be read. -/
namespace Go.Proofs.Ytfhinmjpokollaa
set_option linter.unusedVariables false
set_option linter.unusedSimpArgs false
set_option linter.constructorNameAsVariable false
open Go.RowKit Go.Maps Go.Sort
attribute [local go_sem] Oper.semAt_some

theorem lookup_cont (E : Tab) (k : List Int) : (cont E).lookup k = (E.lookup k).map Fm.xs := by
  unfold cont
  induction E with
  | nil => rfl
  | cons e E ih =>
    obtain ⟨x, v⟩ := e
    rw [List.map_cons, List.lookup_cons, List.lookup_cons]
    cases hk : k == x
    · exact ih
    · rfl
/-- What a look-up in one finds of an entry of the other. -/
theorem same_look {E1 E2 : Tab} (h2 : (E2.map Prod.fst).Nodup) (hp : (cont E1).Perm (cont E2)) {e : List Int × Fm} (he : e ∈ E1) : (E2.lookup e.1).isSome = true ∧ (tval E2 e.1).xs = e.2.xs := by
  have hm : (e.1, e.2.xs) ∈ cont E2 := hp.mem_iff.1 (List.mem_map.2 ⟨e, he, rfl⟩)
  obtain ⟨d, hd, hde⟩ := List.mem_map.1 hm
  have hl := mem_lookup h2 hd
  injection hde with h3 h4
  rw [h3] at hl
  unfold tval
  rw [hl]
  exact ⟨rfl, h4⟩
set_option maxHeartbeats 2000000 in
set_option maxRecDepth 100000 in
theorem same_live {X1 X2 : Nat → Prop} {w : World} {base1 base2 g1 g2 b1 b2 m1 m2 : Nat} {E1 E2 : Tab} (h1 : TbIn X1 w base1 g1 b1 m1 E1) (h2 : TbIn X2 w base2 g2 b2 m2 E2) (hm1 : m1 ≤ 1000000) (hm2 : m2 ≤ 1000000) (hE1 : E1.length ≤ 1000000) (hp : (cont E1).Perm (cont E2)) :
    Calls Try.prog 16 #[.pointer (some ⟨g1, 0, none⟩), .pointer (some ⟨g2, 0, none⟩)] w fun e w' => e = .returned (.bool true) ∧ New w w' := by
  have H1 := Lib.hid h1
  have H2 := Lib.hid h2
  have HP := Lib.hid hp
  have hX : ∀ j, X1 j → j < w.heap.size := fun j hj => by
    obtain ⟨_, cs, fz, hx⟩ := h1.xs j hj
    exact (Array.getElem?_eq_some_iff.1 hx).1
  have HX := Lib.hid hX
  have hl : E2.length = E1.length := by have := hp.length_eq; rw [cont_len, cont_len] at this; exact this.symm
  have HL := Lib.hid hl
  clear h1 h2 hX hp hl
  refine (callsIn_wide (n := 3)).1 ?_
  refine callsIn_of_wp_marks Try.func16 rfl trivial ?_ rfl
  refine wpIn_wide.2 ?_
  simp only [Try.ntmps16, List.size_toArray, List.length_cons, List.length_nil, Nat.reduceAdd, Nat.reduceSub, Array.replicate_succ, Array.replicate_zero, List.push_toArray, List.append_toArray, List.nil_append, List.cons_append]
  go_upto_region 1 with fail
  obtain ⟨w1, hw1⟩ : ∃ w1 : World, w1 = (w.alloc (.cells #[.pointer (some ⟨g2, 0, none⟩)] 24)).alloc (.cells #[.bool false] 4) := ⟨_, rfl⟩
  obtain ⟨b3, hb3⟩ : ∃ b3, b3 = w.heap.size := ⟨_, rfl⟩
  obtain ⟨b4, hb4⟩ : ∃ b4, b4 = w.heap.size + 1 := ⟨_, rfl⟩
  have HN1 : Hid (New w w1) := Lib.hid (by rw [hw1]; exact New.al (New.al (New.refl _) _) _)
  have HB3 : Hid (Blk w1 b3 24 #[.pointer (some ⟨g2, 0, none⟩)]) := Lib.hid (by rw [hw1, hb3]; exact (Blk.new _ _ _).alloc _)
  have HB4 : Hid (Blk w1 b4 4 #[.bool false]) := Lib.hid (by rw [hw1, hb4]; exact Blk.new' _ _ _ (by simp))
  rw [← hw1, ← hb4, ← hb3]
  have HZ4 : Hid (w.heap.size ≤ b4) := Lib.hid (by omega)
  clear hw1 hb3 hb4
  have k3 := cell_regrown (show w1.cell? ⟨b3, 0, none⟩ = some (.pointer (some ⟨g2, 0, none⟩)) from HB3.out.cell 0)
  have cA := calls_regrown (w := w1) (v := .int .i64 E1.length) (f := 28) (args := #[.pointer (some ⟨g1, 0, none⟩)]) (fun W hN => (len_any (H1.out.new (HN1.out.tr hN)) hm1 hE1).mono fun e w h => ⟨h.1, h.2⟩)
  have cB := calls_regrown (w := w1) (v := .int .i64 E1.length) (f := 28) (args := #[.pointer (some ⟨g2, 0, none⟩)]) (fun W hN => (len_any (H2.out.new (HN1.out.tr hN)) hm2 (by rw [HL.out]; exact hE1)).mono fun e w h => ⟨by rw [← HL.out]; exact h.1, h.2⟩)
  refine wp_region_quiet_below (by kernel_rfl) (by kernel_rfl) ?_
  repeat (quiet_step (first | exact cA _ _ | exact cB _ _))
  refine wpQuiet_nil ?_
  intro _ hw'
  obtain ⟨⟨dq, osq⟩, hw''⟩ := hw'
  have HNq : Hid (New w1 (grow (redrawn w1 dq) osq)) := Lib.hid (below_regrown w1 dq osq)
  subst hw''
  generalize grow (redrawn w1 dq) osq = wq at HNq ⊢
  clear k3 cA cB
  go_wp2_with fail
  refine (all_any (some ⟨g1, 0, none⟩) wq).mono ?_
  rintro e w2 ⟨rfl, hw2⟩
  have HN2 : Hid (New w1 w2) := Lib.hid (by rw [hw2]; exact New.al HNq.out _)
  have HS := Lib.hid (all1_live (H1.out.new (HN1.out.tr HN2.out)) hm1 hE1 (fun _ => False) wq.heap.size (by rw [hw2]; exact Blk.new wq _ _) (fun j hj => hj.elim))
  clear hw2
  go_wp2_with fail
  refine wp_rangeR rfl (enters_of Try.func44 (by kernel_rfl) rfl) (fun x : List Int × Fm => #[.string (strOfNums x.1), x.2.val]) (fun _ => rfl) HS.out (fun x W W' hg hp => hg.puts hp) (fun h k => h.tr k) (fun W W' hp => Kk.puts hp)
    (fun _ W => New w2 W) (fun _ _ _ h hN => h.tr hN) (fun _ _ _ h hp => h.puts hp (Nat.le_refl _)) (New.refl _) ?a1 ?assign ?body ?done
  case assign =>
    intro l x W K hK
    gi_wp2
    exact hK
  case body =>
    rintro l pre x W hpl hN hG ⟨e0, he0, hx1, hx2, hx3⟩
    have he := st_mem (List.mem_of_getElem? he0)
    have hsl := same_look H2.out.nd HP.out he
    have HNW : Hid (New w W) := Lib.hid ((HN1.out.tr HN2.out).tr hN)
    have HT := Lib.hid (H2.out.new HNW.out)
    have c3 : W.cell? ⟨b3, 0, none⟩ = some (.pointer (some ⟨g2, 0, none⟩)) := (hN.blk (HN2.out.blk HB3.out)).cell 0
    obtain ⟨cc, W2, hcv, hN2, hR2⟩ := conv_back x.1 hG.2.2.2.1 W
    have HN2' := Lib.hid hN2
    have HR2 := Lib.hid hR2
    rw [← hx1] at hsl
    rw [← hx2] at hsl
    have HSL := Lib.hid hsl
    have HG := Lib.hid hG
    have HN := Lib.hid hN
    clear hN2 hR2 hsl hx1 hx2 hx3 he he0 hG hN
    obtain ⟨xk, xA, xn, xc, xs⟩ := x
    simp only [Fm.val]
    dsimp only at hcv
    have hxl : xk.length ≤ 1000000 := by have := HG.out.2.2.2.2; dsimp only at this; omega
    have hbk : Byt xk := HG.out.2.2.2.1
    gi_wp2
    refine ⟨trivial, ?_⟩
    refine (CallsIn.inRound l (callsIn_wide.2 (get_any (HT.out.new HN2'.out) (some ⟨W.heap.size, 0, none⟩) xk.length cc xk HR2.out hbk hxl))).mono ?_
    rintro e W3 ⟨A3, c3', rfl, hO3, hN3⟩
    rw [HSL.out.1]
    rw [HSL.out.2] at hO3
    generalize (tval E2 xk).n = n3 at hO3 ⊢
    have HN3 : Hid (New W W3) := Lib.hid (HN2'.out.tr hN3)
    have heq := equal_any xA A3 xn n3 xc c3' xs xs W3 (Rd.own (HN3.out.own HG.out.1) rfl) (Rd.own hO3 rfl) HG.out.2.1 HG.out.2.1
    have hts : decide (xs = xs) = true := by simp
    rw [hts] at heq
    have HEQ := Lib.hid heq
    clear heq hO3 hN3 hcv hts
    gi_wp2
    refine ⟨trivial, ?_⟩
    refine (CallsIn.inRound l (callsIn_wide.2 HEQ.out)).mono ?_
    rintro e W4 ⟨rfl, rfl⟩
    gi_wp2
    exact ⟨Kept.new HN3.out, Kk.fr (HN3.out.toFr _), HN.out.tr HN3.out⟩
  case done =>
    rintro D fs W hD hfs hNW hDm
    have HNW := Lib.hid (HN2.out.tr hNW)
    have HDM := Lib.hid hDm
    have c4 : W.cell? ⟨b4, 0, none⟩ = some (.bool false) := (HNW.out.blk HB4.out).cell 0
    have f4 : W.frozen? ⟨b4, 0, none⟩ = false := (HNW.out.blk HB4.out).frozen 0
    clear hNW hDm
    dsimp only
    go_wp2_with fail
    have hF : Fr (fun j => j = b4) W (W.setCell ⟨b4, 0, none⟩ (.bool true)) := (Fr.refl (fun j => j = b4) W).setCell (p := ⟨b4, 0, none⟩) (fun _ => rfl) _
    have hB : Blk (W.setCell ⟨b4, 0, none⟩ (.bool true)) b4 4 #[.bool true] := (HNW.out.blk HB4.out).set 0 _
    refine leaves_marks [D] _ ((Marks.cons (Marks.nil w2.heap.size W) (fun _ h => by cases h) hD HDM.out).fr hF (fun D hD => ?_)) (fun W' hS => ⟨.bool true, ?_, rfl, ?_⟩)
    · subst hD
      exact not_def_blk (HNW.out.blk HB4.out)
    · have hc : W'.cell? ⟨b4, 0, none⟩ = some (.bool true) := by
        have h1 : W'.heap[b4]? = _ := hS.cells b4 _ hB rfl
        exact (show Blk W' b4 4 #[.bool true] from h1).cell 0
      simp [results, Try.results16, go_sem, hc]
    · have hz : w.heap.size ≤ w2.heap.size := (HN1.out.tr HN2.out).size
      exact (New.fr (HN1.out.tr HNW.out) hF (fun k hk => by have := HZ4.out; omega)).trans (hS.below.mono hz)
end Go.Proofs.Ytfhinmjpokollaa
/- The reference: which changes are right, a table's size. No condition but that they can be read. -/
namespace Go.Proofs.Ytfhinmjpokollaa
set_option linter.unusedVariables false
set_option linter.unusedSimpArgs false
set_option linter.constructorNameAsVariable false
open Go.RowKit Go.Maps Go.Sort

theorem chs_bad {L : List Ch} {x : Ch} (h : x ∈ L) (hx : chOk x = false) : chsOk L = false := by
  unfold chsOk
  have : L.all chOk = false := by
    cases ha : L.all chOk with
    | false => rfl
    | true => have := List.all_eq_true.1 ha _ h; rw [hx] at this; cases this
  rw [this]
  simp
set_option maxRecDepth 100000 in
set_option maxHeartbeats 2000000 in
theorem rright_any {P : Nat → Prop} (A : Option Addr) (n c : Nat) (L : List Ch) (w : World) (h : Rd P w 3 A n (L.flatMap Ch.cells)) (hL : L.length = n) (hn : n ≤ 100000000) (hb : ∀ c ∈ L, c.k.n ≤ maxLen ∧ c.v.n ≤ maxLen) :
    Calls Try.prog 14 #[.slice A n c] w fun e w' => e = .returned (.bool (chsOk L)) ∧ w = w' := by
  have HR := Lib.hid h
  have HL := Lib.hid hL
  have HB := Lib.hid hb
  clear h hL hb
  go_enter Try.func14, Try.ntmps14
  go_wp2_with fail
  go_loopw [3] (fun i wr => ∃ j : Nat, j ≤ n ∧ i = .int .i64 j ∧ Hid ((L.take j).all chOk = true) ∧ wr = w) (fun i _ => n - (intOf i).toNat)
  case atStart => exact ⟨0, Nat.zero_le _, rfl, Lib.hid (by simp), rfl⟩
  case round =>
    obtain ⟨j, hj, rfl, HS, rfl⟩ := hrel
    by_cases hlt : j < n
    · as_aux_lemma =>
      obtain ⟨g, o, hl, rfl, -, -, hrg⟩ := rd_row (f := Ch.cells) (L := L) (fun _ => rfl) (by omega) HR.out hlt
      have c0 : wr.cell? ⟨g, o + j * 3, none⟩ = some (.slice L[j].k.A L[j].k.n L[j].k.c) := hrg 0 _ rfl
      have c1 : wr.cell? ⟨g, o + j * 3 + 1, none⟩ = some (.slice L[j].v.A L[j].v.n L[j].v.c) := hrg 1 _ rfl
      have c2 : wr.cell? ⟨g, o + j * 3 + 2, none⟩ = some (.bool L[j].d) := hrg 2 _ rfl
      have hbd := HB.out L[j] (List.getElem_mem _)
      have hst := all_take hl
      have hmem : L[j] ∈ L := List.getElem_mem _
      generalize L[j] = x at c0 c1 c2 hst hmem hbd
      obtain ⟨⟨kA, kn, kc, ks⟩, ⟨vA, vn, vc, vs⟩, d⟩ := x
      dsimp only at c0 c1 c2 hbd
      have HST := Lib.hid hst
      have HM := Lib.hid hmem
      have hj0 : (0 : Int) ≤ (j : Int) := by omega
      have hjn : (j : Int) < (n : Int) := by omega
      obtain ⟨hb1, hb2⟩ := hbd
      unfold maxLen at hb1 hb2
      clear hrg hl hst hmem
      go_wp2_with fail
      all_goals first
        | (go_roundw
           case rel =>
             refine ⟨j + 1, by omega, by go_num, Lib.hid ?_, trivial⟩
             rw [HST.out, HS.out]
             try subst d
             simp [chOk]
             omega
           case measure => simp [intOf]; omega)
        | (go_ret
           refine ⟨rb ?_, rfl⟩
           refine (chs_bad HM.out ?_).symm
           try subst d
           simp [chOk]
           omega)
    · as_aux_lemma =>
      obtain rfl : j = n := by omega
      have hn0 : (0 : Int) ≤ (j : Int) := by omega
      go_wp2_with fail
      all_goals
        go_ret
        refine ⟨rb ?_, rfl⟩
        have hL := HL.out
        have hs := HS.out
        rw [← hL, List.take_length] at hs
        unfold chsOk
        rw [hs, hL, Bool.and_true]
        by_cases h1 : 1 ≤ j <;> by_cases h2 : j ≤ 600
        all_goals
          first
            | (exfalso; omega)
            | (simp [h1, h2]; done)
            | (simp [h1, h2]; omega)
            | (simp; omega)
end Go.Proofs.Ytfhinmjpokollaa
/- The reference: a table's size, a key's value. No condition but that they can be read. -/
namespace Go.Proofs.Ytfhinmjpokollaa
set_option linter.unusedVariables false
set_option linter.unusedSimpArgs false
set_option linter.constructorNameAsVariable false
open Go.RowKit Go.Maps Go.Sort

def rsz (L : List Ch) : Nat := (L.map fun c => 4 + c.k.n + c.v.n).sum
theorem rsz_take {L : List Ch} {k : Nat} (h : k < L.length) : rsz (L.take (k + 1)) = rsz (L.take k) + (4 + L[k].k.n + L[k].v.n) := by
  unfold rsz
  rw [List.take_succ_eq_append_getElem h, List.map_append, List.sum_append]
  simp only [List.map_cons, List.map_nil, List.sum_cons, List.sum_nil, Nat.add_zero]
theorem rsz_le {L : List Ch} (h : ∀ c ∈ L, c.k.n ≤ 16 ∧ c.v.n ≤ 16384) (k : Nat) (hk : k ≤ L.length) : rsz (L.take k) ≤ k * 16404 := by
  induction k with
  | zero => simp [rsz]
  | succ k ih =>
    rw [rsz_take (by omega)]
    have := h L[k] (List.getElem_mem _)
    have := ih (by omega)
    omega
set_option maxRecDepth 100000 in
set_option maxHeartbeats 2000000 in
theorem rsize_any {P : Nat → Prop} (A : Option Addr) (n c : Nat) (L : List Ch) (w : World) (h : Rd P w 3 A n (L.flatMap Ch.cells)) (hL : L.length = n) (hn : n ≤ 100000000) (hb : ∀ c ∈ L, c.k.n ≤ 16 ∧ c.v.n ≤ 16384) :
    Calls Try.prog 40 #[.slice A n c] w fun e w' => e = .returned (.int .i64 (rsz L)) ∧ New w w' := by
  have HR := Lib.hid h
  have HL := Lib.hid hL
  have HB := Lib.hid hb
  clear h hL hb
  go_enter Try.func40, Try.ntmps40
  go_wp2_with fail
  go_loopw [3, 4] (fun s i wr => ∃ j : Nat, j ≤ n ∧ i = .int .i64 j ∧ s = .int .i64 (rsz (L.take j)) ∧ Hid (New w wr)) (fun s i _ => n - (intOf i).toNat)
  case atStart => exact ⟨0, Nat.zero_le _, rfl, by simp [rsz], Lib.hid (New.refl w)⟩
  case round =>
    obtain ⟨j, hj, rfl, rfl, HN⟩ := hrel
    by_cases hlt : j < n
    · as_aux_lemma =>
      obtain ⟨g, o, hl, rfl, -, -, hrg⟩ := rd_row (f := Ch.cells) (L := L) (fun _ => rfl) (by omega) (HN.out.rd HR.out) hlt
      have c0 : wr.cell? ⟨g, o + j * 3, none⟩ = some (.slice L[j].k.A L[j].k.n L[j].k.c) := hrg 0 _ rfl
      have c1 : wr.cell? ⟨g, o + j * 3 + 1, none⟩ = some (.slice L[j].v.A L[j].v.n L[j].v.c) := hrg 1 _ rfl
      have hbd := HB.out L[j] (List.getElem_mem _)
      have hst := rsz_take hl
      have hle := rsz_le HB.out j (by omega)
      generalize L[j] = x at c0 c1 hst hbd
      generalize rsz (L.take j) = s at hst hle ⊢
      obtain ⟨⟨kA, kn, kc, ks⟩, ⟨vA, vn, vc, vs⟩, d⟩ := x
      dsimp only at c0 c1 hbd hst
      have HST := Lib.hid hst
      have hj0 : (0 : Int) ≤ (j : Int) := by omega
      have hjn : (j : Int) < (n : Int) := by omega
      obtain ⟨hb1, hb2⟩ := hbd
      have hs : s ≤ 100000000 * 16404 := by omega
      clear hrg hl hst hle
      go_wp2_with fail
      go_quiet (fail)
      go_wp2_with fail
      go_roundw
      case rel =>
        refine ⟨j + 1, by omega, by go_num, ?_, Lib.hid (New.dn HN.out _)⟩
        rw [HST.out]
        go_num
      case measure => simp [intOf]; omega
    · as_aux_lemma =>
      obtain rfl : j = n := by omega
      go_wp2_with fail
      go_ret
      have ht : L.take j = L := by rw [← HL.out, List.take_length]
      rw [ht]
      exact ⟨rfl, HN.out⟩
/-- What the reference finds. -/
def rfind (L : List Ch) (k : List Int) : Option Fm := (L.find? fun c => decide (c.k.xs = k)).map Ch.v
def oval (o : Option Fm) : Value := match o with | none => .slice none 0 0 | some v => v.val
theorem find_take {L : List Ch} {p : Ch → Bool} {j : Nat} (h : j < L.length) (h0 : (L.take j).find? p = none) : (L.take (j + 1)).find? p = if p L[j] then some L[j] else none := by
  rw [List.take_succ_eq_append_getElem h, List.find?_append, h0]
  simp [List.find?_cons]
  cases p L[j] <;> rfl
theorem find_of_take {L : List Ch} {p : Ch → Bool} {j : Nat} {x : Ch} (h : (L.take j).find? p = some x) : L.find? p = some x := by
  rw [← List.take_append_drop j L, List.find?_append, h]
  rfl
set_option maxRecDepth 100000 in
set_option maxHeartbeats 2000000 in
theorem rget_any {P q : Nat → Prop} (A : Option Addr) (n c : Nat) (L : List Ch) (B : Option Addr) (m d : Nat) (ys : List Int) (w : World) (h : Rd P w 3 A n (L.flatMap Ch.cells)) (hL : L.length = n) (hn : n ≤ 100000000) (hb : ∀ c ∈ L, c.In P w) (hy : Rd q w 1 B m (u8s ys)) (hyb : Byt ys) :
    Calls Try.prog 20 #[.slice A n c, .slice B m d] w fun e w' => e = .returned (.tuple #[oval (rfind L ys), .bool (rfind L ys).isSome]) ∧ New w w' := by
  have HR := Lib.hid h
  have HL := Lib.hid hL
  have HB := Lib.hid hb
  have HY := Lib.hid hy
  clear h hL hb hy
  go_enter Try.func20, Try.ntmps20
  go_wp2_with fail
  go_loopw [6] (fun i wr => ∃ j : Nat, j ≤ n ∧ i = .int .i64 j ∧ Hid ((L.take j).find? (fun c => decide (c.k.xs = ys)) = none) ∧ Hid (New w wr)) (fun i _ => n - (intOf i).toNat)
  case atStart => exact ⟨0, Nat.zero_le _, rfl, Lib.hid (by simp), Lib.hid (New.refl w)⟩
  case round =>
    obtain ⟨j, hj, rfl, HF, HN⟩ := hrel
    by_cases hlt : j < n
    · as_aux_lemma =>
      obtain ⟨g, o, hl, rfl, -, -, hrg⟩ := rd_row (f := Ch.cells) (L := L) (fun _ => rfl) (by omega) (HN.out.rd HR.out) hlt
      have c0 : wr.cell? ⟨g, o + j * 3, none⟩ = some (.slice L[j].k.A L[j].k.n L[j].k.c) := hrg 0 _ rfl
      have c1 : wr.cell? ⟨g, o + j * 3 + 1, none⟩ = some (.slice L[j].v.A L[j].v.n L[j].v.c) := hrg 1 _ rfl
      have hin := HB.out L[j] (List.getElem_mem _)
      have hst := find_take hl HF.out
      generalize L[j] = x at c0 c1 hst hin
      obtain ⟨⟨kA, kn, kc, ks⟩, ⟨vA, vn, vc, vs⟩, dd⟩ := x
      dsimp only at c0 c1 hst hin
      have hk1 := fun q => run_conv (c := kc) (w := wr.drewN q) (HN.out.rd hin.k.rd)
      have hk2 := fun q => run_conv (c := d) (w := wr.drewN q) (HN.out.rd HY.out)
      have h3 := str_inj hin.k.byt hyb
      dsimp only at hk1 h3
      generalize strOfNums ks = s1 at hk1 h3
      generalize strOfNums ys = s2 at hk2 h3
      obtain ⟨r, hr⟩ : ∃ r, r = decide (ks = ys) := ⟨_, rfl⟩
      rw [← hr] at h3 hst
      have HST := Lib.hid hst
      have hj0 : (0 : Int) ≤ (j : Int) := by omega
      have hjn : (j : Int) < (n : Int) := by omega
      clear hrg hl hst hin hr
      go_wp2_with fail
      go_quiet (fail)
      cases r
      · go_wp2_with fail
        go_roundw
        case rel => exact ⟨j + 1, by omega, by go_num, Lib.hid HST.out, Lib.hid (New.dn HN.out _)⟩
        case measure => simp [intOf]; omega
      · go_wp2_with fail
        go_ret2
        have hf : rfind L ys = some ⟨vA, vn, vc, vs⟩ := by
          unfold rfind
          rw [find_of_take HST.out]
          rfl
        rw [hf]
        exact ⟨rfl, New.dn HN.out _⟩
    · as_aux_lemma =>
      obtain rfl : j = n := by omega
      go_wp2_with fail
      go_ret2
      have ht : L.take j = L := by rw [← HL.out, List.take_length]
      have hf := HF.out
      rw [ht] at hf
      have hf2 : rfind L ys = none := by
        unfold rfind
        rw [hf]
        rfl
      rw [hf2]
      exact ⟨rfl, HN.out⟩
end Go.Proofs.Ytfhinmjpokollaa
/- The law's Document: the changes as the reference's. No condition but that they can be read. -/
namespace Go.Proofs.Ytfhinmjpokollaa
set_option linter.unusedVariables false
set_option linter.unusedSimpArgs false
set_option linter.constructorNameAsVariable false
open Go.RowKit Go.Maps Go.Sort

def ch0 : Ch := ⟨⟨none, 0, 0, []⟩, ⟨none, 0, 0, []⟩, false⟩
theorem elD : ElemOf Try.prog 26 49 3 56 := ElemOf.mk' (z := .agg ch0.cells.toArray) Try.underlying26 (by kernel_rfl) rfl (by decide)
theorem cells_one (c : Ch) : ∀ u ∈ c.cells, u.oneCell' = true := by
  intro u hu
  simp [Ch.cells] at hu
  rcases hu with rfl | rfl | rfl <;> rfl
theorem flat_take {L : List Ch} {k : Nat} (h : k < L.length) : (L.take (k + 1)).flatMap Ch.cells = (L.take k).flatMap Ch.cells ++ L[k].cells := by
  rw [List.take_succ_eq_append_getElem h, List.flatMap_append]
  simp
set_option maxRecDepth 100000 in
set_option maxHeartbeats 4000000 in
theorem doc_any {P : Nat → Prop} (A : Option Addr) (n c : Nat) (L : List Ch) (w : World) (h : Rd P w 3 A n (L.flatMap Ch.cells)) (hL : L.length = n) (hn : n ≤ 100000000) :
    Calls Try.prog 13 #[.slice A n c] w fun e w' => (∃ A' c', e = .returned (.slice A' n c') ∧ w'.ownsRow w.heap.size 49 3 (.slice A' n c') n (L.flatMap Ch.cells)) ∧ New w w' := by
  have HR := Lib.hid h
  have HL := Lib.hid hL
  clear h hL
  go_enter Try.func13, Try.ntmps13
  go_wp2_with fail
  go_loopw [3, 8] (fun s i wr => ∃ (j : Nat) (A' : Option Addr) (c' : Nat), j ≤ n ∧ i = .int .i64 j ∧ s = .slice A' j c' ∧ Hid (wr.ownsRow w.heap.size 49 3 (.slice A' j c') j ((L.take j).flatMap Ch.cells)) ∧ Hid (New w wr)) (fun s i _ => n - (intOf i).toNat)
  case atStart => exact ⟨0, none, 0, Nat.zero_le _, rfl, rfl, Lib.hid (World.ownsRow_nil _ _ _ _), Lib.hid (New.refl w)⟩
  case round =>
    obtain ⟨j, A', c', hj, rfl, rfl, HO, HN⟩ := hrel
    by_cases hlt : j < n
    · as_aux_lemma =>
      obtain ⟨g, o, hl, rfl, -, -, hrg⟩ := rd_row (f := Ch.cells) (L := L) (fun _ => rfl) (by omega) (HN.out.rd HR.out) hlt
      have c0 : wr.cell? ⟨g, o + j * 3, none⟩ = some (.slice L[j].k.A L[j].k.n L[j].k.c) := hrg 0 _ rfl
      have c1 : wr.cell? ⟨g, o + j * 3 + 1, none⟩ = some (.slice L[j].v.A L[j].v.n L[j].v.c) := hrg 1 _ rfl
      have c2 : wr.cell? ⟨g, o + j * 3 + 2, none⟩ = some (.bool L[j].d) := hrg 2 _ rfl
      have hst := flat_take hl
      have hone := cells_one L[j]
      generalize L[j] = x at c0 c1 c2 hst hone
      obtain ⟨⟨kA, kn, kc, ks⟩, ⟨vA, vn, vc, vs⟩, dd⟩ := x
      rw [show Ch.cells ⟨⟨kA, kn, kc, ks⟩, ⟨vA, vn, vc, vs⟩, dd⟩ = [.slice kA kn kc, .slice vA vn vc, .bool dd] from rfl] at hst hone
      dsimp only at c0 c1 c2 hst hone
      have HST := Lib.hid hst
      have HONE := Lib.hid hone
      have hj0 : (0 : Int) ≤ (j : Int) := by omega
      have hjn : (j : Int) < (n : Int) := by omega
      have hs0 := HN.out.size
      clear hrg hl hst hone
      go_wp2_with (first
        | ((with_reducible refine atOpS ⟨some 14, .buildSlice _ _ _, _, _, _, _⟩ ?_); refine wpList_bs1 elD (by decide) rfl (.tmp 13) rfl #[.slice kA kn kc, .slice vA vn vc, .bool dd] rfl rfl ?_)
        | (at_builtin; refine atOpS ⟨some 15, _, _, _, _, _⟩ ?_; refine stopHere ?_))
      refine ⟨?_⟩
      refine wpList_app (o := ⟨some 15, _, _, _, _, _⟩) elD _ rfl (.tmp 12) (.tmp 14) rfl w.heap.size (.slice A' j c') j ((L.take j).flatMap Ch.cells) rfl (New.own (New.al (New.al (New.refl wr) _) _) HO.out) (some ⟨wr.heap.size + 1, 0, none⟩) 1 1 [.slice kA kn kc, .slice vA vn vc, .bool dd] rfl (Rd.ofBlk (p := fun _ => True) (Blk.new' _ 49 #[.slice kA kn kc, .slice vA vn vc, .bool dd] (by simp)) 3 1 rfl trivial) HONE.out (by unfold maxLen; omega) (by omega) (by simp; omega) ?_
      intro A2 d2 w3 hO3 hF3 hA3
      rw [← HST.out] at hO3
      have HO3 := Lib.hid hO3
      have HN3 : Hid (New w w3) := Lib.hid ((New.al (New.al HN.out _) _).fr hF3 (fun k hk => (own_lt HO.out k hk).1))
      clear hO3 hF3 hA3
      go_wp2_with fail
      go_roundw
      case rel => exact ⟨j + 1, A2, d2, by omega, by go_num, rfl, HO3, HN3⟩
      case measure => simp [intOf]; omega
    · as_aux_lemma =>
      obtain rfl : j = n := by omega
      go_wp2_with fail
      go_ret
      have ht : L.take j = L := by rw [← HL.out, List.take_length]
      have ho := HO.out
      rw [ht] at ho
      exact ⟨⟨A', c', rfl, ho⟩, HN.out⟩
end Go.Proofs.Ytfhinmjpokollaa
