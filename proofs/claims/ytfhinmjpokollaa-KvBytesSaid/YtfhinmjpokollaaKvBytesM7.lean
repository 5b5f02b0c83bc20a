/- Texts of one proof, one behind the other: KvH, KvI, KvJ, KvK. No condition but each one's own. -/
import Derived.Test.YtfhinmjpokollaaKvBytesM6
import Derived.Laws.IdiomStrings
/- A live table's Size. No condition but that the table can be read. -/
namespace Go.Proofs.Ytfhinmjpokollaa
set_option linter.unusedVariables false
set_option linter.unusedSimpArgs false
set_option linter.constructorNameAsVariable false
open Go.RowKit Go.Maps Go.Sort
attribute [local go_sem] Oper.semAt_some

/-- A table's size in plain words. -/
def csize (T : CT) : Nat := (T.map fun e => 4 + e.1.length + e.2.length).sum
theorem csize_perm {T T' : CT} (h : T.Perm T') : csize T = csize T' := (h.map _).sum_nat
theorem csize_snoc (T : CT) (e : List Int × List Int) : csize (T ++ [e]) = csize T + (4 + e.1.length + e.2.length) := by simp [csize]
/-- What Size's rounds leave. -/
def SzI (b3 : Nat) (w2 : World) (s : List (List Int × Fm)) (W : World) : Prop := Fr (fun j => b3 ≤ j) w2 W ∧ csize (s.map fun x => (x.1, x.2.xs)) ≤ s.length * 16404 ∧ Blk W b3 3 #[.int .i64 (csize (s.map fun x => (x.1, x.2.xs)))]
theorem SzI.new {b3 : Nat} {w2 : World} {s : List (List Int × Fm)} {W W' : World} (h : SzI b3 w2 s W) (hN : New W W') : SzI b3 w2 s W' := ⟨h.1.trans (hN.toFr _), h.2.1, hN.blk h.2.2⟩
theorem SzI.puts {b3 B : Nat} {w2 : World} {s : List (List Int × Fm)} {W W' : World} (h : SzI b3 w2 s W) (hz : b3 ≤ B) (hp : Puts B W W') : SzI b3 w2 s W' := ⟨h.1.trans (hp.fr (fun j hj => Nat.le_trans hz hj)), h.2.1, hp.blk h.2.2⟩
set_option maxHeartbeats 2000000 in
set_option maxRecDepth 100000 in
theorem size_any {X : Nat → Prop} {w : World} {base g b m : Nat} {E : Tab} (h : TbIn X w base g b m E) (hm : m ≤ 1000000) (hE : E.length ≤ 1000000) :
    Calls Try.prog 29 #[.pointer (some ⟨g, 0, none⟩)] w fun e w' => e = .returned (.int .i64 (csize (cont E))) ∧ New w w' := by
  have H := Lib.hid h
  have hX : ∀ j, X j → j < w.heap.size := fun j hj => by
    obtain ⟨_, cs, fz, hx⟩ := h.xs j hj
    exact (Array.getElem?_eq_some_iff.1 hx).1
  have HX := Lib.hid hX
  clear h hX
  refine (callsIn_wide (n := 3)).1 ?_
  refine callsIn_of_wp_marks Try.func29 rfl trivial ?_ rfl
  refine wpIn_wide.2 ?_
  simp only [Try.ntmps29, List.size_toArray, List.length_cons, List.length_nil, Nat.reduceAdd, Nat.reduceSub, Array.replicate_succ, Array.replicate_zero, List.push_toArray, List.append_toArray, List.nil_append, List.cons_append]
  go_wp2_with fail
  obtain ⟨w1, hw1⟩ : ∃ w1 : World, w1 = w.alloc (.cells #[.int .i64 0] 3) := ⟨_, rfl⟩
  obtain ⟨b3, hb3⟩ : ∃ b3, b3 = w.heap.size := ⟨_, rfl⟩
  have HN1 : Hid (New w w1) := Lib.hid (by rw [hw1]; exact New.al (New.refl _) _)
  have HB3 : Hid (Blk w1 b3 3 #[.int .i64 0]) := Lib.hid (by rw [hw1, hb3]; exact Blk.new _ _ _)
  have HZ3 : Hid (b3 = w.heap.size) := Lib.hid hb3
  rw [← hw1, ← hb3]
  clear hw1 hb3
  refine (all_any (some ⟨g, 0, none⟩) w1).mono ?_
  rintro e w2 ⟨rfl, hw2⟩
  have HN2 : Hid (New w1 w2) := Lib.hid (by rw [hw2]; exact New.al (New.refl _) _)
  have hg := H.out.blk.lt
  have hb := H.out.blt
  have h1z := HB3.out.lt
  have hz3 := HZ3.out
  have HS := Lib.hid (all1_live (H.out.new (HN1.out.tr HN2.out)) hm hE (fun j => j = b3) w1.heap.size (by rw [hw2]; exact Blk.new w1 _ _) (fun j hj => by
    subst hj
    have := HN2.out.size
    exact ⟨by omega, by omega, by omega, fun hx => by have := HX.out _ hx; omega, by omega⟩))
  have HB32 : Hid (Blk w2 b3 3 #[.int .i64 0]) := Lib.hid (HN2.out.blk HB3.out)
  have HZB : Hid (b3 < w2.heap.size) := Lib.hid (HB32.out.lt)
  clear hw2 hg hb h1z hz3
  go_wp2_with fail
  refine wp_rangeR rfl (enters_of Try.func44 (by kernel_rfl) rfl) (fun x : List Int × Fm => #[.string (strOfNums x.1), x.2.val]) (fun _ => rfl) HS.out (fun x W W' hg hp => hg.puts hp) (fun h k => h.tr k) (fun W W' hp => Kk.puts hp)
    (SzI b3 w2) (fun s A B h hN => h.new hN) (fun s A B h hp => h.puts (Nat.le_of_lt HZB.out) hp) ⟨Fr.refl _ _, by simp [csize], HB32.out⟩ ?a1 ?assign ?body ?done
  case assign =>
    intro l x W K hK
    gi_wp2
    exact hK
  case body =>
    rintro l pre x W hpl ⟨hF, hl, hB⟩ hG hx
    have c3 : W.cell? ⟨b3, 0, none⟩ = some (.int .i64 (csize (pre.map fun x => (x.1, x.2.xs)))) := hB.cell 0
    have f3 : W.frozen? ⟨b3, 0, none⟩ = false := hB.frozen 0
    have h1 := hG.2.2.1
    have h2 := hG.2.2.2.2
    have hxl : x.2.xs.length = x.2.n := by have := hG.1.1; rw [u8s_len] at this; omega
    have hsn : csize ((pre ++ [x]).map fun x => (x.1, x.2.xs)) = csize (pre.map fun x => (x.1, x.2.xs)) + (4 + x.1.length + x.2.n) := by
      rw [List.map_append, List.map_cons, List.map_nil, csize_snoc, hxl]
    have hl' : csize (pre.map fun x => (x.1, x.2.xs)) ≤ 1000001 * 20000 := by omega
    have HB := Lib.hid hB
    have HF := Lib.hid hF
    have hss : (strOfNums x.1).size = x.1.length := strOfNums_size _
    have HPL := Lib.hid hpl
    have HL := Lib.hid hl
    clear hB hF hG hx hxl hl hpl
    obtain ⟨xk, xA, xn, xc, xs⟩ := x
    dsimp only at h1 h2 hsn hss
    simp only [Fm.val]
    generalize strOfNums xk = sk at hss ⊢
    generalize hcc : csize (pre.map fun x => (x.1, x.2.xs)) = cc at *
    generalize hkl : xk.length = kl at *
    gi_wp2
    have hFW : Fr (fun j => j = b3) W (W.setCell ⟨b3, 0, none⟩ (.int .i64 (cc + (4 + kl + xn)))) := (Fr.refl (fun j => j = b3) W).setCell (p := ⟨b3, 0, none⟩) (fun _ => rfl) _
    refine ⟨Kept.fr hFW (fun k o hB hs => by have := HZB.out; omega), Kk.fr hFW, HF.out.trans (hFW.mono (fun k _ hs => by omega)), ?_, ?_⟩
    · rw [hsn, List.length_append, List.length_singleton]
      have := HL.out
      omega
    · rw [hsn]
      have := HB.out.set 0 (.int .i64 (cc + (4 + kl + xn)))
      simpa using this
  case done =>
    rintro D fs W hD hfs ⟨hF, hl, hB⟩ hDm
    have HNW : Hid (New w W) := Lib.hid ((HN1.out.tr HN2.out).fr hF (fun k hk => by have := HZ3.out; omega))
    have c3 : W.cell? ⟨b3, 0, none⟩ = some (.int .i64 (csize (cont E))) := by
      have := hB.cell 0
      rw [hfs, csize_perm (show (cont (st E)).Perm (cont E) from (st_perm E).map _)] at this
      exact this
    clear hB hF hl
    dsimp only
    go_wp2_with fail
    refine leaves_marks [D] W (Marks.cons (Marks.nil w2.heap.size W) (fun _ h => by cases h) hD hDm) (fun W' hS => ⟨.int .i64 (csize (cont E)), by simp [results, Try.results29, go_sem], rfl, ?_⟩)
    exact HNW.out.trans (hS.below.mono (HN1.out.tr HN2.out).size)
end Go.Proofs.Ytfhinmjpokollaa
/- A string's bytes, as memory. No condition. -/
namespace Go.Proofs.Ytfhinmjpokollaa
set_option linter.unusedVariables false
set_option linter.unusedSimpArgs false
set_option linter.constructorNameAsVariable false
open Go.RowKit Go.Maps Go.Sort

theorem conv_back (xs : List Int) (hb : Byt xs) (w : World) : ∃ (c : Nat) (w' : World), (convert 9 39 (.string (strOfNums xs))).run Try.prog w = .ok (.slice (some ⟨w.heap.size, 0, none⟩) xs.length c) w' ∧ New w w' ∧ Rd (fun k => k = w.heap.size) w' 1 (some ⟨w.heap.size, 0, none⟩) xs.length (u8s xs) := by
  have h := Go.run_bytes_of_string (P := Try.prog) w 9 39 5 (strOfNums xs) Try.underlying9 Try.underlying39 Try.underlying5
  rw [strOfNums_size] at h
  refine ⟨_, _, h, New.al (New.dr (New.refl w)) _, u8s_len xs ▸ by omega, fun _ => ⟨_, rfl, rfl, by simp, fun j u hu => ?_⟩⟩
  have hj : j < xs.length := by
    have := (List.getElem?_eq_some_iff.1 hu).1
    rwa [u8s_len] at this
  have hx := hb _ (List.getElem_mem hj)
  have hu' : u = .int .u8 xs[j] := by
    unfold u8s at hu
    rw [List.getElem?_map, List.getElem?_eq_getElem hj] at hu
    simpa using hu.symm
  subst hu'
  have hd : (strOfNums xs).data[j]? = some (UInt8.ofNat xs[j].toNat) := by
    have h1 := strs_of (xs := xs)
    have h2 : (strOfNums xs).data.toList[j]? = some (UInt8.ofNat xs[j].toNat) := by
      rw [h1, List.getElem?_map, List.getElem?_eq_getElem hj]
      rfl
    rwa [Array.getElem?_toList] at h2
  have hds : j < (strOfNums xs).data.size := (Array.getElem?_eq_some_iff.1 hd).1
  have hcs : (bytesRow (strOfNums xs) (grownCap w xs.length 0 5))[j]? = some (.int .u8 xs[j]) := by
    unfold bytesRow
    rw [Array.getElem?_append_left (by simpa using hds), Array.getElem?_map, hd]
    have : ((UInt8.ofNat xs[j].toNat).toNat : Int) = xs[j] := by
      rw [UInt8.toNat_ofNat']
      omega
    simp only [Option.map_some, this]
  generalize bytesRow (strOfNums xs) (grownCap w xs.length 0 5) = cs at hcs
  have hW : (w.drew.alloc (.cells cs 5 (cs.size, cs.size + 1))).heap[w.heap.size]? = some (.cells cs 5 (cs.size, cs.size + 1)) := by
    show (w.heap.push _)[w.heap.size]? = _
    simp
  rw [add_own]
  simp only [World.cell?, hW]
  simpa using hcs
end Go.Proofs.Ytfhinmjpokollaa
/- Two live tables that have the same: Same says so. No condition but that the tables can be read. -/
namespace Go.Proofs.Ytfhinmjpokollaa
set_option linter.unusedVariables false
set_option linter.unusedSimpArgs false
set_option linter.constructorNameAsVariable false
open Go.RowKit Go.Maps Go.Sort
attribute [local go_sem] Oper.semAt_some

theorem lookup_cont (E : Tab) (k : List Int) : (cont E).lookup k = (E.lookup k).map Fm.xs := by
  unfold cont
  induction E with
  | nil => rfl
  | cons e E ih =>
    obtain ⟨x, v⟩ := e
    rw [List.map_cons, List.lookup_cons, List.lookup_cons]
    cases hk : k == x
    · exact ih
    · rfl
/-- What a look-up in one finds of an entry of the other. -/
theorem same_look {E1 E2 : Tab} (h2 : (E2.map Prod.fst).Nodup) (hp : (cont E1).Perm (cont E2)) {e : List Int × Fm} (he : e ∈ E1) : (E2.lookup e.1).isSome = true ∧ (tval E2 e.1).xs = e.2.xs := by
  have hm : (e.1, e.2.xs) ∈ cont E2 := hp.mem_iff.1 (List.mem_map.2 ⟨e, he, rfl⟩)
  obtain ⟨d, hd, hde⟩ := List.mem_map.1 hm
  have hl := mem_lookup h2 hd
  injection hde with h3 h4
  rw [h3] at hl
  unfold tval
  rw [hl]
  exact ⟨rfl, h4⟩
set_option maxHeartbeats 2000000 in
set_option maxRecDepth 100000 in
theorem same_live {X1 X2 : Nat → Prop} {w : World} {base1 base2 g1 g2 b1 b2 m1 m2 : Nat} {E1 E2 : Tab} (h1 : TbIn X1 w base1 g1 b1 m1 E1) (h2 : TbIn X2 w base2 g2 b2 m2 E2) (hm1 : m1 ≤ 1000000) (hm2 : m2 ≤ 1000000) (hE1 : E1.length ≤ 1000000) (hp : (cont E1).Perm (cont E2)) :
    Calls Try.prog 16 #[.pointer (some ⟨g1, 0, none⟩), .pointer (some ⟨g2, 0, none⟩)] w fun e w' => e = .returned (.bool true) ∧ New w w' := by
  have H1 := Lib.hid h1
  have H2 := Lib.hid h2
  have HP := Lib.hid hp
  have hX : ∀ j, X1 j → j < w.heap.size := fun j hj => by
    obtain ⟨_, cs, fz, hx⟩ := h1.xs j hj
    exact (Array.getElem?_eq_some_iff.1 hx).1
  have HX := Lib.hid hX
  have hl : E2.length = E1.length := by have := hp.length_eq; rw [cont_len, cont_len] at this; exact this.symm
  have HL := Lib.hid hl
  clear h1 h2 hX hp hl
  refine (callsIn_wide (n := 3)).1 ?_
  refine callsIn_of_wp_marks Try.func16 rfl trivial ?_ rfl
  refine wpIn_wide.2 ?_
  simp only [Try.ntmps16, List.size_toArray, List.length_cons, List.length_nil, Nat.reduceAdd, Nat.reduceSub, Array.replicate_succ, Array.replicate_zero, List.push_toArray, List.append_toArray, List.nil_append, List.cons_append]
  go_upto_region 1 with fail
  obtain ⟨w1, hw1⟩ : ∃ w1 : World, w1 = (w.alloc (.cells #[.pointer (some ⟨g2, 0, none⟩)] 24)).alloc (.cells #[.bool false] 4) := ⟨_, rfl⟩
  obtain ⟨b3, hb3⟩ : ∃ b3, b3 = w.heap.size := ⟨_, rfl⟩
  obtain ⟨b4, hb4⟩ : ∃ b4, b4 = w.heap.size + 1 := ⟨_, rfl⟩
  have HN1 : Hid (New w w1) := Lib.hid (by rw [hw1]; exact New.al (New.al (New.refl _) _) _)
  have HB3 : Hid (Blk w1 b3 24 #[.pointer (some ⟨g2, 0, none⟩)]) := Lib.hid (by rw [hw1, hb3]; exact (Blk.new _ _ _).alloc _)
  have HB4 : Hid (Blk w1 b4 4 #[.bool false]) := Lib.hid (by rw [hw1, hb4]; exact Blk.new' _ _ _ (by simp))
  rw [← hw1, ← hb4, ← hb3]
  have HZ4 : Hid (w.heap.size ≤ b4) := Lib.hid (by omega)
  clear hw1 hb3 hb4
  have k3 := cell_regrown (show w1.cell? ⟨b3, 0, none⟩ = some (.pointer (some ⟨g2, 0, none⟩)) from HB3.out.cell 0)
  have cA := calls_regrown (w := w1) (v := .int .i64 E1.length) (f := 28) (args := #[.pointer (some ⟨g1, 0, none⟩)]) (fun W hN => (len_any (H1.out.new (HN1.out.tr hN)) hm1 hE1).mono fun e w h => ⟨h.1, h.2⟩)
  have cB := calls_regrown (w := w1) (v := .int .i64 E1.length) (f := 28) (args := #[.pointer (some ⟨g2, 0, none⟩)]) (fun W hN => (len_any (H2.out.new (HN1.out.tr hN)) hm2 (by rw [HL.out]; exact hE1)).mono fun e w h => ⟨by rw [← HL.out]; exact h.1, h.2⟩)
  refine wp_region_quiet_below (by kernel_rfl) (by kernel_rfl) ?_
  repeat (quiet_step (first | exact cA _ _ | exact cB _ _))
  refine wpQuiet_nil ?_
  intro _ hw'
  obtain ⟨⟨dq, osq⟩, hw''⟩ := hw'
  have HNq : Hid (New w1 (grow (redrawn w1 dq) osq)) := Lib.hid (below_regrown w1 dq osq)
  subst hw''
  generalize grow (redrawn w1 dq) osq = wq at HNq ⊢
  clear k3 cA cB
  go_wp2_with fail
  refine (all_any (some ⟨g1, 0, none⟩) wq).mono ?_
  rintro e w2 ⟨rfl, hw2⟩
  have HN2 : Hid (New w1 w2) := Lib.hid (by rw [hw2]; exact New.al HNq.out _)
  have HS := Lib.hid (all1_live (H1.out.new (HN1.out.tr HN2.out)) hm1 hE1 (fun _ => False) wq.heap.size (by rw [hw2]; exact Blk.new wq _ _) (fun j hj => hj.elim))
  clear hw2
  go_wp2_with fail
  refine wp_rangeR rfl (enters_of Try.func44 (by kernel_rfl) rfl) (fun x : List Int × Fm => #[.string (strOfNums x.1), x.2.val]) (fun _ => rfl) HS.out (fun x W W' hg hp => hg.puts hp) (fun h k => h.tr k) (fun W W' hp => Kk.puts hp)
    (fun _ W => New w2 W) (fun _ _ _ h hN => h.tr hN) (fun _ _ _ h hp => h.puts hp (Nat.le_refl _)) (New.refl _) ?a1 ?assign ?body ?done
  case assign =>
    intro l x W K hK
    gi_wp2
    exact hK
  case body =>
    rintro l pre x W hpl hN hG ⟨e0, he0, hx1, hx2, hx3⟩
    have he := st_mem (List.mem_of_getElem? he0)
    have hsl := same_look H2.out.nd HP.out he
    have HNW : Hid (New w W) := Lib.hid ((HN1.out.tr HN2.out).tr hN)
    have HT := Lib.hid (H2.out.new HNW.out)
    have c3 : W.cell? ⟨b3, 0, none⟩ = some (.pointer (some ⟨g2, 0, none⟩)) := (hN.blk (HN2.out.blk HB3.out)).cell 0
    obtain ⟨cc, W2, hcv, hN2, hR2⟩ := conv_back x.1 hG.2.2.2.1 W
    have HN2' := Lib.hid hN2
    have HR2 := Lib.hid hR2
    rw [← hx1] at hsl
    rw [← hx2] at hsl
    have HSL := Lib.hid hsl
    have HG := Lib.hid hG
    have HN := Lib.hid hN
    clear hN2 hR2 hsl hx1 hx2 hx3 he he0 hG hN
    obtain ⟨xk, xA, xn, xc, xs⟩ := x
    simp only [Fm.val]
    dsimp only at hcv
    have hxl : xk.length ≤ 1000000 := by have := HG.out.2.2.2.2; dsimp only at this; omega
    have hbk : Byt xk := HG.out.2.2.2.1
    gi_wp2
    refine ⟨trivial, ?_⟩
    refine (CallsIn.inRound l (callsIn_wide.2 (get_any (HT.out.new HN2'.out) (some ⟨W.heap.size, 0, none⟩) xk.length cc xk HR2.out hbk hxl))).mono ?_
    rintro e W3 ⟨A3, c3', rfl, hO3, hN3⟩
    rw [HSL.out.1]
    rw [HSL.out.2] at hO3
    generalize (tval E2 xk).n = n3 at hO3 ⊢
    have HN3 : Hid (New W W3) := Lib.hid (HN2'.out.tr hN3)
    have heq := equal_any xA A3 xn n3 xc c3' xs xs W3 (Rd.own (HN3.out.own HG.out.1) rfl) (Rd.own hO3 rfl) HG.out.2.1 HG.out.2.1
    have hts : decide (xs = xs) = true := by simp
    rw [hts] at heq
    have HEQ := Lib.hid heq
    clear heq hO3 hN3 hcv hts
    gi_wp2
    refine ⟨trivial, ?_⟩
    refine (CallsIn.inRound l (callsIn_wide.2 HEQ.out)).mono ?_
    rintro e W4 ⟨rfl, rfl⟩
    gi_wp2
    exact ⟨Kept.new HN3.out, Kk.fr (HN3.out.toFr _), HN.out.tr HN3.out⟩
  case done =>
    rintro D fs W hD hfs hNW hDm
    have HNW := Lib.hid (HN2.out.tr hNW)
    have HDM := Lib.hid hDm
    have c4 : W.cell? ⟨b4, 0, none⟩ = some (.bool false) := (HNW.out.blk HB4.out).cell 0
    have f4 : W.frozen? ⟨b4, 0, none⟩ = false := (HNW.out.blk HB4.out).frozen 0
    clear hNW hDm
    dsimp only
    go_wp2_with fail
    have hF : Fr (fun j => j = b4) W (W.setCell ⟨b4, 0, none⟩ (.bool true)) := (Fr.refl (fun j => j = b4) W).setCell (p := ⟨b4, 0, none⟩) (fun _ => rfl) _
    have hB : Blk (W.setCell ⟨b4, 0, none⟩ (.bool true)) b4 4 #[.bool true] := (HNW.out.blk HB4.out).set 0 _
    refine leaves_marks [D] _ ((Marks.cons (Marks.nil w2.heap.size W) (fun _ h => by cases h) hD HDM.out).fr hF (fun D hD => ?_)) (fun W' hS => ⟨.bool true, ?_, rfl, ?_⟩)
    · subst hD
      exact not_def_blk (HNW.out.blk HB4.out)
    · have hc : W'.cell? ⟨b4, 0, none⟩ = some (.bool true) := by
        have h1 : W'.heap[b4]? = _ := hS.cells b4 _ hB rfl
        exact (show Blk W' b4 4 #[.bool true] from h1).cell 0
      simp [results, Try.results16, go_sem, hc]
    · have hz : w.heap.size ≤ w2.heap.size := (HN1.out.tr HN2.out).size
      exact (New.fr (HN1.out.tr HNW.out) hF (fun k hk => by have := HZ4.out; omega)).trans (hS.below.mono hz)
end Go.Proofs.Ytfhinmjpokollaa
/- The reference: which changes are right, a table's size. No condition but that they can be read. -/
namespace Go.Proofs.Ytfhinmjpokollaa
set_option linter.unusedVariables false
set_option linter.unusedSimpArgs false
set_option linter.constructorNameAsVariable false
open Go.RowKit Go.Maps Go.Sort

theorem chs_bad {L : List Ch} {x : Ch} (h : x ∈ L) (hx : chOk x = false) : chsOk L = false := by
  unfold chsOk
  have : L.all chOk = false := by
    cases ha : L.all chOk with
    | false => rfl
    | true => have := List.all_eq_true.1 ha _ h; rw [hx] at this; cases this
  rw [this]
  simp
set_option maxRecDepth 100000 in
set_option maxHeartbeats 2000000 in
theorem rright_any {P : Nat → Prop} (A : Option Addr) (n c : Nat) (L : List Ch) (w : World) (h : Rd P w 3 A n (L.flatMap Ch.cells)) (hL : L.length = n) (hn : n ≤ 100000000) (hb : ∀ c ∈ L, c.k.n ≤ maxLen ∧ c.v.n ≤ maxLen) :
    Calls Try.prog 14 #[.slice A n c] w fun e w' => e = .returned (.bool (chsOk L)) ∧ w = w' := by
  have HR := Lib.hid h
  have HL := Lib.hid hL
  have HB := Lib.hid hb
  clear h hL hb
  go_enter Try.func14, Try.ntmps14
  go_wp2_with fail
  go_loopw [3] (fun i wr => ∃ j : Nat, j ≤ n ∧ i = .int .i64 j ∧ Hid ((L.take j).all chOk = true) ∧ wr = w) (fun i _ => n - (intOf i).toNat)
  case atStart => exact ⟨0, Nat.zero_le _, rfl, Lib.hid (by simp), rfl⟩
  case round =>
    obtain ⟨j, hj, rfl, HS, rfl⟩ := hrel
    by_cases hlt : j < n
    · as_aux_lemma =>
      obtain ⟨g, o, hl, rfl, -, -, hrg⟩ := rd_row (f := Ch.cells) (L := L) (fun _ => rfl) (by omega) HR.out hlt
      have c0 : wr.cell? ⟨g, o + j * 3, none⟩ = some (.slice L[j].k.A L[j].k.n L[j].k.c) := hrg 0 _ rfl
      have c1 : wr.cell? ⟨g, o + j * 3 + 1, none⟩ = some (.slice L[j].v.A L[j].v.n L[j].v.c) := hrg 1 _ rfl
      have c2 : wr.cell? ⟨g, o + j * 3 + 2, none⟩ = some (.bool L[j].d) := hrg 2 _ rfl
      have hbd := HB.out L[j] (List.getElem_mem _)
      have hst := all_take hl
      have hmem : L[j] ∈ L := List.getElem_mem _
      generalize L[j] = x at c0 c1 c2 hst hmem hbd
      obtain ⟨⟨kA, kn, kc, ks⟩, ⟨vA, vn, vc, vs⟩, d⟩ := x
      dsimp only at c0 c1 c2 hbd
      have HST := Lib.hid hst
      have HM := Lib.hid hmem
      have hj0 : (0 : Int) ≤ (j : Int) := by omega
      have hjn : (j : Int) < (n : Int) := by omega
      obtain ⟨hb1, hb2⟩ := hbd
      unfold maxLen at hb1 hb2
      clear hrg hl hst hmem
      go_wp2_with fail
      all_goals first
        | (go_roundw
           case rel =>
             refine ⟨j + 1, by omega, by go_num, Lib.hid ?_, trivial⟩
             rw [HST.out, HS.out]
             try subst d
             simp [chOk]
             omega
           case measure => simp [intOf]; omega)
        | (go_ret
           refine ⟨rb ?_, rfl⟩
           refine (chs_bad HM.out ?_).symm
           try subst d
           simp [chOk]
           omega)
    · as_aux_lemma =>
      obtain rfl : j = n := by omega
      have hn0 : (0 : Int) ≤ (j : Int) := by omega
      go_wp2_with fail
      all_goals
        go_ret
        refine ⟨rb ?_, rfl⟩
        have hL := HL.out
        have hs := HS.out
        rw [← hL, List.take_length] at hs
        unfold chsOk
        rw [hs, hL, Bool.and_true]
        by_cases h1 : 1 ≤ j <;> by_cases h2 : j ≤ 600
        all_goals
          first
            | (exfalso; omega)
            | (simp [h1, h2]; done)
            | (simp [h1, h2]; omega)
            | (simp; omega)
end Go.Proofs.Ytfhinmjpokollaa
