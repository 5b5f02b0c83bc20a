/- Texts of one proof, one behind the other: LiA, OpenA, DkJ, ShL. No condition but each one's own. -/
import Derived.Test.YteeclfejgpgooaaDoorLogReadsM18
import Derived.Test.YteeclfejgpgooaaDoorLogReadsM9
import Derived.OpenShut
import Derived.Test.YteeclfejgpgooaaDoorLogReadsM11
import Derived.Test.YteeclfejgpgooaaDoorRows
import Derived.Test.YteeclfejgpgooaaDoorLogReadsM8
import Derived.SevenTiedAt
import Derived.Stop.Joined
/- A log opened, both sides in one's words; records side by side. sha's tables are as they were laid. No condition else. -/
namespace Go.Proofs.YteeclfejgpgooaaDoor
set_option linter.unusedVariables false
set_option linter.unusedSimpArgs false
set_option linter.constructorNameAsVariable false
open Go.RowKit Go.Sort

/-- What Open leaves: the disk, an error's number, the records, the log. -/
structure Opn where
  disk : DP
  err : Int
  recs : List (List Int)
  log : Option LG
open Classical in
noncomputable def opn (p : DP) (a b c : Int) : Opn :=
  if GoodAt a b c p.size then
    (if (wipeL p (runL p (lg0 a.toNat b.toNat c.toNat)).1).2 = 0 then ⟨(wipeL p (runL p (lg0 a.toNat b.toNat c.toNat)).1).1, 0, (runL p (lg0 a.toNat b.toNat c.toNat)).2, some (runL p (lg0 a.toNat b.toNat c.toNat)).1⟩
     else ⟨(wipeL p (runL p (lg0 a.toNat b.toNat c.toNat)).1).1, (wipeL p (runL p (lg0 a.toNat b.toNat c.toNat)).1).2, [], none⟩)
  else ⟨p, 1, [], none⟩
def LgO (B : Nat) (w : World) (pl : Option Addr) (gd n : Nat) : Option LG → Prop
  | none => pl = none
  | some l => ∃ gl, pl = some ⟨gl, 0, none⟩ ∧ B ≤ gl ∧ Lg w gl gd l n
def RlO (w : World) (XL : Array Value) : Option LG → Prop
  | none => XL = rl0
  | some l => ∃ B c, XL = rlV l B c ∧ RlIn w l B
def usedOf : Option LG → Nat
  | none => 0
  | some l => l.used
theorem RlO.used {w : World} {XL : Array Value} {o : Option LG} (h : RlO w XL o) : XL[2]? = some (.int .i64 (usedOf o)) ∧ XL.size = 6 ∧ XL.all (·.oneCell') = true := by
  cases o with
  | none => rw [show XL = rl0 from h]; exact ⟨rfl, rfl, by simp [rl0, Value.oneCell']⟩
  | some l =>
    obtain ⟨B, c, rfl, -⟩ := h
    exact ⟨rfl, rfl, rl_all _ _ _⟩
theorem RlO.fr {S : Nat → Prop} {w w' : World} {XL : Array Value} {o : Option LG} (h : RlO w XL o) (hF : Fr S w w') (hS : ∀ k, S k → ¬ IsT 5 w k) : RlO w' XL o := by
  cases o with
  | none => exact h
  | some l => obtain ⟨B, c, e, hi⟩ := h; exact ⟨B, c, e, hi.fr hF hS⟩
theorem RlO.new {w w' : World} {XL : Array Value} {o : Option LG} (h : RlO w XL o) (hN : New w w') : RlO w' XL o := h.fr (S := NoB) (hN.toFr _) (fun _ x => x.elim)
theorem LgO.fr {S : Nat → Prop} {B : Nat} {w w' : World} {pl : Option Addr} {gd n : Nat} {o : Option LG} (h : LgO B w pl gd n o) (hF : Fr S w w') (hS : ∀ gl, pl = some ⟨gl, 0, none⟩ → ¬ S gl) : LgO B w' pl gd n o := by
  cases o with
  | none => exact h
  | some l => obtain ⟨gl, e, hb, hl⟩ := h; exact ⟨gl, e, hb, hl.fr hF (hS gl e)⟩
theorem LgO.new {B : Nat} {w w' : World} {pl : Option Addr} {gd n : Nat} {o : Option LG} (h : LgO B w pl gd n o) (hN : New w w') : LgO B w' pl gd n o := h.fr (S := NoB) (hN.toFr _) (fun _ _ x => x)
/-- The live answer, the reference's. -/
def LvSays (o : Opn) (w : World) (gd base bs bf : Nat) (v : Value) (n : Nat) (e : Ending) (w' : World) : Prop :=
  ∃ pl A c v', e = .returned (.tuple #[.pointer pl, .slice A o.recs.length c, errD o.err]) ∧ LgO w.heap.size w' pl gd n o.log ∧ Recs w.heap.size w' (.slice A o.recs.length c) o.recs ∧ DkTo w base gd bs bf v o.disk w' v'
def RvSays (o : Opn) (tot : Nat) (w : World) (e : Ending) (w' : World) : Prop :=
  ∃ r' A1 c1 A2 c2 XL C cc, e = .returned (.tuple #[.agg (RfV r' A1 c1 A2 c2), .agg XL, .slice C o.recs.length cc, .int .i64 o.err]) ∧ RfIn w' r' A1 A2 ∧ Mt o.disk r' ∧ r'.tot ≤ tot ∧ RlO w' XL o.log ∧ Recs w.heap.size w' (.slice C o.recs.length cc) o.recs ∧ New w w'
theorem goodAt_nat {a b c : Int} {n : Nat} (h : GoodAt a b c n) (hc : 0 ≤ c) : ∃ x y z : Nat, a = x ∧ b = y ∧ c = z ∧ 1 ≤ y ∧ x + y ≤ n ∧ z ≠ 0 ∧ a.toNat = x ∧ b.toNat = y ∧ c.toNat = z := by
  obtain ⟨h1, h2, h3, h4, h5⟩ := h
  exact ⟨a.toNat, b.toNat, c.toNat, by omega, by omega, by omega, by omega, by omega, by omega, rfl, rfl, rfl⟩
theorem open_all {w : World} {gd base bs bf : Nat} {v : Value} {p : DP} (hD : Dk w base gd bs bf v p) (hL : ShaIn 3 2 w) (a b c : Int) (wa : (Lit.int .i64 a).wf = true) (wb : (Lit.int .i64 b).wf = true) (hc : 0 ≤ c ∧ c < 4294967296) :
    Calls Tryd.prog 12 #[.pointer (some ⟨gd, 0, none⟩), .int .i64 a, .int .i64 b, .int .u32 c] w (LvSays (opn p a b c) w gd base bs bf v p.size) := by
  unfold opn
  by_cases hg : GoodAt a b c p.size
  · rw [if_pos hg]
    obtain ⟨x, y, z, rfl, rfl, rfl, h1, h2, h3, e1, e2, e3⟩ := goodAt_nat hg hc.1
    rw [e1, e2, e3]
    refine (open_good hD hL x y z h1 h2 (by omega) h3).mono fun e w' h => ?_
    unfold OpenSays at h
    split at h
    · next h0 =>
      rw [if_pos h0]
      obtain ⟨gl, A, cc, v', he, hgl, hLg, hR, hT⟩ := h
      exact ⟨some ⟨gl, 0, none⟩, A, cc, v', he, ⟨gl, rfl, hgl, hLg⟩, hR, hT⟩
    · next h0 =>
      rw [if_neg h0]
      obtain ⟨v', he, hT⟩ := h
      exact ⟨none, none, 0, v', he, rfl, Recs.nil _ _, hT⟩
  · rw [if_neg hg]
    refine (open_bad hD a b c wa wb hc.1 hg).mono fun e w' h => ?_
    obtain ⟨rfl, rfl⟩ := h
    exact ⟨none, none, 0, v, rfl, rfl, Recs.nil _ _, DkTo.same hD (New.refl _)⟩
theorem ropen_all {w : World} {p : DP} (r : RP) (A1 : Option Addr) (c1 : Nat) (A2 : Option Addr) (c2 : Nat) (hr : RfIn w r A1 A2) (hM : Mt p r) (hp : p.Ok) (hn : r.tot ≤ 50000) (hL : RShaIn 1 0 w) (a b c : Int) (wa : (Lit.int .i64 a).wf = true) (wb : (Lit.int .i64 b).wf = true) (hc : 0 ≤ c ∧ c < 4294967296) :
    Calls Tryd.prog 13 #[.agg (RfV r A1 c1 A2 c2), .int .i64 a, .int .i64 b, .int .u32 c] w (RvSays (opn p a b c) (r.tot + 16384) w) := by
  unfold opn
  by_cases hg : GoodAt a b c p.size
  · rw [if_pos hg]
    obtain ⟨x, y, z, rfl, rfl, rfl, h1, h2, h3, e1, e2, e3⟩ := goodAt_nat hg hc.1
    rw [e1, e2, e3]
    refine (ropen_good r A1 c1 A2 c2 hr hM hp hn hL x y z h1 h2 (by omega) h3).mono fun e w' h => ?_
    have hs := hp.s2
    unfold ROpenSays at h
    split at h
    · next h0 =>
      rw [if_pos h0]
      obtain ⟨r', B1, d1, B2, d2, B, cb, C, cc, he, hR, hM', ht, hI, hRc, hN⟩ := h
      exact ⟨r', B1, d1, B2, d2, _, C, cc, he, hR, hM', by omega, ⟨B, cb, rfl, hI⟩, hRc, hN⟩
    · next h0 =>
      rw [if_neg h0]
      obtain ⟨r', B1, d1, B2, d2, he, hR, hM', ht, hN⟩ := h
      exact ⟨r', B1, d1, B2, d2, _, none, 0, he, hR, hM', by omega, rfl, Recs.nil _ _, hN⟩
  · rw [if_neg hg]
    refine (ropen_bad r A1 c1 A2 c2 p.size hM.size hp.s2 a b c wa wb hc.1 hg).mono fun e w' h => ?_
    obtain ⟨rfl, hN⟩ := h
    exact ⟨r, A1, c1, A2, c2, rl0, none, 0, rfl, hr.new hN, hM, by omega, rfl, Recs.nil _ _, hN⟩
theorem used_any {w : World} {B gd n : Nat} {pl : Option Addr} {o : Option LG} (h : LgO B w pl gd n o) : Calls Tryd.prog 16 #[.pointer pl] w fun e w' => e = .returned (.int .i64 (usedOf o)) ∧ w = w' := by
  cases o with
  | none => rw [show pl = none from h]; exact used_nil w
  | some l =>
    obtain ⟨gl, rfl, -, hl⟩ := h
    have c4 := hl.c4
    show Calls _ _ _ _ fun e w' => e = .returned (.int .i64 l.used) ∧ w = w'
    obtain ⟨u, hu⟩ : ∃ u, u = l.used := ⟨_, rfl⟩
    rw [← hu] at c4 ⊢
    clear hl hu
    go_enter Tryd.func16, Tryd.ntmps16
    go_wp2_with fail
    go_ret
    exact ⟨rfl, rfl⟩
theorem Recs.out {B : Nat} {w : World} {A : Option Addr} {n c : Nat} {L : List (List Int)} (h : Recs B w (.slice A n c) L) (hn : n = L.length) {i : Nat} (hi : i < n) : ∃ g o A' c' l, L[i]? = some l ∧ A = some ⟨g, o, none⟩ ∧ w.cell? ⟨g, o + i, none⟩ = some (.slice A' l.length c') ∧ Byt l ∧ Rd (RB B w) w 1 A' l.length (u8s l) ∧ c' ≤ maxLen ∧ l.length ≤ c' := by
  subst hn
  obtain ⟨vs, ho, he⟩ := h.row
  obtain ⟨g, o, hA, -, -, hc⟩ := (Rd.own ho rfl).out (by omega) (by omega)
  obtain ⟨A', c', h1, h2, h3, h4, h5⟩ := he i _ (List.getElem?_eq_getElem hi)
  exact ⟨g, o, A', c', _, List.getElem?_eq_getElem hi, hA, hc i _ h1, h4, h5, h3, h2⟩
/-- Records side by side. -/
theorem rows_any {w : World} {B B2 : Nat} {A A2 : Option Addr} {n c n2 c2 : Nat} {L M : List (List Int)} (h : Recs B w (.slice A n c) L) (h2 : Recs B2 w (.slice A2 n2 c2) M) (hn : n = L.length) (hn2 : n2 = M.length) (hm : n ≤ 1000000000) (hm2 : n2 ≤ 1000000000) :
    Calls Tryd.prog 15 #[.slice A n c, .slice A2 n2 c2] w fun e w' => e = .returned (.bool (decide (L = M))) ∧ New w w' := by
  obtain ⟨r, hr⟩ : ∃ r, r = decide (L = M) := ⟨_, rfl⟩
  rw [← hr]
  have HR := Lib.hid hr
  have H1 := Lib.hid h
  have H2 := Lib.hid h2
  have HN := Lib.hid (And.intro hn hn2)
  clear hr h h2
  by_cases hnm : n = n2
  · subst hnm
    clear hn hn2
    go_enter Tryd.func15, Tryd.ntmps15
    go_wp2_with fail
    go_loopw [13] (fun i wr => ∃ k : Nat, k ≤ n ∧ i = .int .i64 k ∧ Hid (L.take k = M.take k) ∧ Hid (New w wr)) (fun i _ => n - (intOf i).toNat)
    case atStart => exact ⟨0, Nat.zero_le _, rfl, Lib.hid rfl, Lib.hid (New.refl _)⟩
    case round =>
      obtain ⟨k, hk, rfl, HE, HWR⟩ := hrel
      by_cases hlt : k < n
      · obtain ⟨g, o, D, d, l, hl, hA, hc, hb, hR, -, -⟩ := H1.out.out HN.out.1 hlt
        obtain ⟨g2, o2, D2, d2, m, hl2, hA2, hc2, hb2, hR2, -, -⟩ := H2.out.out HN.out.2 hlt
        subst hA hA2
        have q1 : ∀ p : HW (New wr), p.w.cell? ⟨g, o + k, none⟩ = some (.slice D l.length d) := fun p => p.h.cell_ (HWR.out.cell_ hc)
        have q2 : ∀ p : HW (New wr), p.w.cell? ⟨g2, o2 + k, none⟩ = some (.slice D2 m.length d2) := fun p => p.h.cell_ (HWR.out.cell_ hc2)
        have HBY := Lib.hid (fun W (hN : New wr W) => bytes_any D D2 l.length m.length d d2 l m W ((HWR.out.tr hN).rd hR) ((HWR.out.tr hN).rd hR2) hb hb2)
        have HT : Hid (L.take (k + 1) = L.take k ++ [l] ∧ M.take (k + 1) = M.take k ++ [m] ∧ L[k]? = some l ∧ M[k]? = some m) := Lib.hid ⟨by rw [List.take_add_one, hl]; rfl, by rw [List.take_add_one, hl2]; rfl, hl, hl2⟩
        have hlt' : (k : Int) < (n : Int) := by omega
        have hk0 : (0 : Int) ≤ (k : Int) := by omega
        clear hl hl2 hc hc2 hb hb2 hR hR2
        by_cases he : l = m
        · have HD := Lib.hid (decide_eq_true he)
          have HEn : Hid (L.take (k + 1) = M.take (k + 1)) := Lib.hid (by rw [HT.out.1, HT.out.2.1, HE.out, he])
          clear he HE
          go_wp2_with fail
          refine wp_region_mixH (New wr) [(true, 0), (true, 1), (true, 2), (true, 3), (true, 4), (true, 5), (true, 6), (true, 7), (false, 8), (true, 9)] (by kernel_rfl) (by kernel_rfl) (New.dr (New.refl wr)) (fun hne => ?_)
          iterate 8 (refine mix_take (o := ⟨_, _, _, _, _, _⟩) rfl (fun K hK => ?_); go_simp; refine hK _ ?_; clear hK K)
          refine mix_act (o := ⟨_, _, _, _, _, _⟩) rfl (fun K hK => ?_) (.inl rfl)
          go_simp
          refine (HBY.out wr.drew (New.dr (New.refl wr))).mono ?_
          rintro e w1 ⟨rfl, hw1⟩
          rw [HD.out]
          have HN1 : Hid (New wr w1) := Lib.hid (by rw [← hw1]; exact New.dr (New.refl wr))
          clear hw1
          go_simp
          refine hK.out _ _ (fun _ => HN1.out) ?_
          clear hK K
          iterate 1 (refine mix_take (o := ⟨_, _, _, _, _, _⟩) rfl (fun K hK => ?_); go_simp; refine hK _ ?_; clear hK K)
          refine mix_done ?_
          go_wp2_with fail
          go_roundw
          case rel => exact ⟨k + 1, by omega, by go_num, HEn, Lib.hid (HWR.out.tr HN1.out)⟩
          case measure => simp [intOf]; omega
        · have HD := Lib.hid (decide_eq_false he)
          have HR0 : Hid (r = false) := Lib.hid (by
            rw [HR.out]
            refine decide_eq_false (fun e => he ?_)
            have h1 := HT.out.2.2.1
            rw [e, HT.out.2.2.2] at h1
            injection h1 with h1
            exact h1.symm)
          clear he
          go_wp2_with fail
          refine wp_region_mixH (New wr) [(true, 0), (true, 1), (true, 2), (true, 3), (true, 4), (true, 5), (true, 6), (true, 7), (false, 8), (true, 9)] (by kernel_rfl) (by kernel_rfl) (New.dr (New.refl wr)) (fun hne => ?_)
          iterate 8 (refine mix_take (o := ⟨_, _, _, _, _, _⟩) rfl (fun K hK => ?_); go_simp; refine hK _ ?_; clear hK K)
          refine mix_act (o := ⟨_, _, _, _, _, _⟩) rfl (fun K hK => ?_) (.inl rfl)
          go_simp
          refine (HBY.out wr.drew (New.dr (New.refl wr))).mono ?_
          rintro e w1 ⟨rfl, hw1⟩
          rw [HD.out]
          have HN1 : Hid (New wr w1) := Lib.hid (by rw [← hw1]; exact New.dr (New.refl wr))
          clear hw1
          go_simp
          refine hK.out _ _ (fun _ => HN1.out) ?_
          clear hK K
          iterate 1 (refine mix_take (o := ⟨_, _, _, _, _, _⟩) rfl (fun K hK => ?_); go_simp; refine hK _ ?_; clear hK K)
          refine mix_done ?_
          go_wp2_with fail
          go_ret
          rw [HR0.out]
          exact ⟨rfl, HWR.out.tr HN1.out⟩
      · have HR1 : Hid (r = true) := Lib.hid (by
          rw [HR.out]
          refine decide_eq_true ?_
          have h := HE.out
          rwa [List.take_of_length_le (by rw [← HN.out.1]; omega), List.take_of_length_le (by rw [← HN.out.2]; omega)] at h)
        go_wp2_with fail
        go_ret
        rw [HR1.out]
        exact ⟨rfl, HWR.out⟩
  · have HR0 : Hid (r = false) := Lib.hid (by rw [HR.out]; exact decide_eq_false (fun e => hnm (by rw [hn, hn2, e])))
    have hnm' : ¬ ((n : Int) = (n2 : Int)) := by omega
    clear hn hn2
    go_enter Tryd.func15, Tryd.ntmps15
    go_wp2_with fail
    go_ret
    rw [HR0.out]
    exact ⟨rfl, New.refl w⟩
end Go.Proofs.YteeclfejgpgooaaDoor
/- Arrays and structs that come by value, opened. No condition. -/
namespace Go.Proofs.YteeclfejgpgooaaDoor
set_option linter.unusedVariables false
set_option linter.unusedSimpArgs false
set_option linter.constructorNameAsVariable false
open Go.RowKit Go.WideShapes Go.ChangeShapes

section
variable {P : Program} {H : Type} {enc : TypeId × Value → H} {w : World}
theorem okWide_array {r : Reach} {b0 : Nat} {t e : TypeId} {n : Nat} {v : Value} (ht : P.underlying t = some (.array n e)) (h : Value.okWide P w r b0 t v) : ∃ cs : Array Value, v = .agg cs ∧ cs.size = P.cellsOf t := by
  unfold Value.okWide at h
  rw [ht] at h
  obtain ⟨cs, h1, h2, _⟩ := h
  exact ⟨cs, h1, h2⟩
/-- An array of one-cell elements: its cells, each as it reads. -/
theorem open_array {r : Reach} {b0 : Nat} {t e : TypeId} {n : Nat} {v : Value} {d : DataW H} {p : List MemPlace} (ht : P.underlying t = some (.array n e)) (hc : P.cellsOf t = n) (he : P.cellsOf e = 1)
    (hv : Value.okWide P w r b0 t v) (h : DataW.Trod enc P w 0 (fun _ => true) true t v d p) :
    ∃ cs : List Value, v = .agg cs.toArray ∧ cs.length = n ∧ ∀ (i : Nat) (hi : i < cs.length), ∃ m y, DataW.trod enc P w 0 (fun _ => true) true m e [cs[i]] = some y := by
  obtain ⟨a, rfl, hsz⟩ := okWide_array ht hv
  obtain ⟨fuel, hf⟩ := h
  obtain ⟨xs, m, _, _, _, hl, hg⟩ := DataW.trod_array ht hf
  refine ⟨a.toList, by simp, by simp [hsz, hc], fun i hi => ?_⟩
  have hi' : i < n := by simp at hi; omega
  have := hg i hi'
  rw [he, Nat.mul_one] at this
  have hx : i < xs.length := by omega
  rw [List.getElem?_eq_getElem hx, show (Value.agg a).cells.toList = a.toList from rfl, List.drop_eq_getElem_cons hi] at this
  exact ⟨m, _, this⟩
end
end Go.Proofs.YteeclfejgpgooaaDoor
/- The disk's acts, opened. No condition. -/
namespace Go.Proofs.YteeclfejgpgooaaDoor
set_option linter.unusedVariables false
set_option linter.unusedSimpArgs false
set_option linter.constructorNameAsVariable false
open Go.RowKit Go.WideShapes Go.ChangeShapes

/-- An act as it lies in memory. -/
structure AC where
  kind : Int
  pos : Int
  s : List Int
  A : Option Addr
  n : Nat
  c : Nat
  keep : List Bool
def AC.cells (a : AC) : List Value := [.int .i64 a.kind, .int .i64 a.pos] ++ u8s a.s ++ [.slice a.A a.n a.c]
structure AC.Good (w : World) (a : AC) : Prop where
  kind : (Lit.int .i64 a.kind).wf = true
  pos : (Lit.int .i64 a.pos).wf = true
  s : SecOk a.s
  n : a.n ≤ maxLen
  rd : Rd (fun b => b < w.heap.size) w 1 a.A a.n (bools a.keep)
theorem AC.len {a : AC} (h : SecOk a.s) : a.cells.length = 67 := by simp [AC.cells, u8s_len, h.1]
theorem AC.one (a : AC) : ∀ u ∈ a.cells, u.oneCell' = true := by
  intro u hu
  simp only [AC.cells, List.mem_append, List.mem_cons, List.not_mem_nil, or_false] at hu
  rcases hu with ((rfl | rfl) | hu) | rfl
  · rfl
  · rfl
  · exact u8s_one _ u hu
  · rfl
theorem AC.at0 (a : AC) : a.cells[0]? = some (.int .i64 a.kind) := rfl
theorem AC.at1 (a : AC) : a.cells[1]? = some (.int .i64 a.pos) := rfl
theorem AC.atS {a : AC} (j : Nat) (u : Value) (h : (u8s a.s)[j]? = some u) : a.cells[2 + j]? = some u := by
  have hj : j < (u8s a.s).length := (List.getElem?_eq_some_iff.1 h).1
  unfold AC.cells
  rw [List.append_assoc, List.getElem?_append_right (by simp), List.getElem?_append_left (by simp; omega)]
  simpa using h
theorem AC.at66 {a : AC} (h : SecOk a.s) : a.cells[66]? = some (.slice a.A a.n a.c) := by
  unfold AC.cells
  rw [List.getElem?_append_right (by simp [u8s_len, h.1])]
  simp [u8s_len, h.1]

section
variable {H : Type} {enc : TypeId × Value → H} {w : World}
set_option maxRecDepth 100000 in
theorem trod_secs {m : Nat} {cs : List Value} {y : DataW H × List MemPlace} (hl : cs.length = 64) (ht : DataW.trod enc Tryd.prog w 0 (fun _ => true) true m 35 cs = some y) : ∃ s, cs = u8s s ∧ SecOk s := by
  obtain ⟨xs, m', _, _, _, hx, hg⟩ := DataW.trod_array Tryd.underlying35 ht
  have hc : Tryd.prog.cellsOf 5 = 1 := by kernel_rfl
  have key : ∀ k, k ≤ 64 → ∃ s : List Int, cs.take k = u8s s ∧ Byt s := by
    intro k
    induction k with
    | zero => exact fun _ => ⟨[], rfl, fun x hx => by cases hx⟩
    | succ k ih =>
      intro hk
      obtain ⟨s, hs, hb⟩ := ih (by omega)
      have h1 := hg k (by omega)
      rw [hc, Nat.mul_one] at h1
      have hlt : k < cs.length := by omega
      rw [List.drop_eq_getElem_cons hlt, List.getElem?_eq_getElem (by omega)] at h1
      obtain ⟨a, e, _, g⟩ := DataW.trod_int Tryd.underlying5 h1
      rw [List.take_succ_cons, List.take_zero] at e
      injection e with e _
      have := bounds_u8 g
      refine ⟨s ++ [a], by rw [List.take_succ_eq_append_getElem hlt, hs, e]; simp [u8s], fun z hz => ?_⟩
      rcases List.mem_append.1 hz with hz | hz
      · exact hb z hz
      · simp at hz; omega
  obtain ⟨s, hs, hb⟩ := key 64 (by omega)
  rw [List.take_of_length_le (by omega)] at hs
  exact ⟨s, hs, by rw [← hl, hs, u8s_len], hb⟩
set_option maxRecDepth 100000 in
theorem trod_bools {fuel : Nat} {v : Value} {y : DataW H × List MemPlace} (h : DataW.trod enc Tryd.prog w 0 (fun _ => true) true fuel 71 [v] = some y) (hs : Sz Tryd.prog 71 y.1) :
    ∃ (A : Option Addr) (n c : Nat) (xs : List Bool), v = .slice A n c ∧ n ≤ maxLen ∧ Rd (fun b => b < w.heap.size) w 1 A n (bools xs) := by
  obtain ⟨A, n, c, L, h1, h2, h3, h4, h5, h6, h7, -⟩ := trod_slk (k := 1) Tryd.underlying71 (fun x : Bool => [Value.bool x]) (by kernel_rfl) (by omega) (fun _ => True) (fun cs m y hl ht' _ => by
    obtain ⟨a, rfl, _⟩ := DataW.trod_bool Tryd.underlying4 ht'
    exact ⟨a, rfl, trivial⟩) h hs
  refine ⟨A, n, c, L, h1, by omega, ?_⟩
  rwa [show L.flatMap (fun x => [Value.bool x]) = bools L from List.map_eq_flatMap.symm] at h6
set_option maxRecDepth 100000 in
theorem open_bools {r : Reach} {b0 : Nat} {v : Value} {d : DataW H} {p : List MemPlace} (hv : Value.okWide Tryd.prog w r b0 71 v) (h : DataW.Trod enc Tryd.prog w 0 (fun _ => true) true 71 v d p) (hz : Sz Tryd.prog 71 d) :
    ∃ (A : Option Addr) (n c : Nat) (xs : List Bool), v = .slice A n c ∧ n ≤ maxLen ∧ Rd (fun b => b < w.heap.size) w 1 A n (bools xs) := by
  obtain ⟨a0, n0, c0, rfl⟩ := okWide_slice Tryd.underlying71 hv
  obtain ⟨fuel, hf⟩ := h
  exact trod_bools hf hz
end
/-- An act of a script. -/
theorem rd_act {p : Nat → Prop} {w : World} {A : Option Addr} {n : Nat} {L : List AC} (h : Rd p w 67 A n (L.flatMap AC.cells)) (hL : L.length = n) (hg : ∀ a ∈ L, SecOk a.s) {i : Nat} (hi : i < n) :
    ∃ (g o : Nat) (hl : i < L.length), A = some ⟨g, o, none⟩ ∧ g < w.heap.size ∧ w.rangeAt g (o + i * 67) (L[i].cells) := by
  obtain ⟨g, o, hA, hp, hgs, hc⟩ := h.out (by omega) (by omega)
  have hl : i < L.length := by omega
  refine ⟨g, o, hl, hA, hgs, fun j v hv => ?_⟩
  have hj : j < 67 := by
    have := (List.getElem?_eq_some_iff.1 hv).1
    rwa [AC.len (hg _ (List.getElem_mem _))] at this
  have := fm_get AC.cells 67 L i j hl (fun x hx => AC.len (hg x hx)) hj
  rw [Nat.add_assoc]
  exact hc (i * 67 + j) v (by rw [this, hv])
end Go.Proofs.YteeclfejgpgooaaDoor
/- sha's tables, out of the row's list of laid variables. No condition. -/
namespace Go.Proofs.YteeclfejgpgooaaDoor
set_option linter.unusedVariables false
set_option linter.unusedSimpArgs false
set_option linter.constructorNameAsVariable false
open Go.RowKit Go.Sort Go.ChangeShapes Go.WideShapes Go.ChangeAt

theorem laid_u32 {W : World} {n : String} {d : DataW Unit} {r : List (String × DataW Unit)} {ps : List MemPlace} {g t N : Nat} (L : List Int) (h : DataW.LaidVars Tryd.prog W ((n, d) :: r) ps) (hg : Tryd.prog.globalNamed n = some g) (ht : (Tryd.prog.globals[g]?).map (·.type) = some t) (hu : Tryd.prog.underlying t = some (.array N 23)) (hd : d = .agg (L.map fun x => .lit (.int .u32 x))) (hl : L.length = N) :
    (∀ j, j < N → W.cell? ⟨g, j, none⟩ = some (.int .u32 (at_ L j))) ∧ ∃ ps', DataW.LaidVars Tryd.prog W r ps' := by
  obtain ⟨g', t', cs, fuel, p, q, hg', ht', hv, hd', hr, _⟩ := h
  obtain rfl := Option.some.inj (hg.symm.trans hg')
  obtain rfl := Option.some.inj (ht.symm.trans ht')
  refine ⟨fun j hj => ?_, _, hr⟩
  obtain ⟨xs, m, _, ex, _, hxl, hel⟩ := DataW.trod_array hu hd'
  have c5 : Tryd.prog.cellsOf 23 = 1 := by kernel_rfl
  have hE := hel j hj
  rw [c5, Nat.mul_one, List.getElem?_eq_getElem (by omega)] at hE
  obtain ⟨z, e1, e2, _⟩ := DataW.trod_int Tryd.underlying23 hE
  have e3 : (xs.map (·.1)) = L.map fun n => .lit (.int .u32 n) := by
    have h0 := (Prod.mk.inj ex).1
    rw [hd] at h0
    exact (DataW.agg.inj h0).symm
  have e4 : (xs.map (·.1))[j]? = (L.map fun n => (DataW.lit (.int .u32 n) : DataW Unit))[j]? := by rw [e3]
  rw [List.getElem?_map, List.getElem?_map, List.getElem?_eq_getElem (by omega : j < xs.length), List.getElem?_eq_getElem (by omega : j < L.length), e2] at e4
  have hz : z = at_ L j := by
    simp only [Option.map_some, Option.some.injEq, DataW.lit.injEq, Lit.int.injEq, true_and] at e4
    unfold at_
    rw [e4, List.getD, List.getElem?_eq_getElem (by omega : j < L.length)]
    rfl
  rw [World.var?_cell hg hv j, ← hz]
  have : cs.toList[j]? = some (.int .u32 z) := by
    have h0 : ((cs.toList.drop j).take 1)[0]? = some (.int .u32 z) := by rw [e1]; rfl
    simpa using h0
  simpa using this
theorem range_iH {W : World} {g : Nat} (h : ∀ j, j < 8 → W.cell? ⟨g, j, none⟩ = some (.int .u32 (at_ iH.list j))) : W.rangeAt g 0 iH.arr.toList := fun j v hv => by
  have hj : j < 8 := by
    have := (List.getElem?_eq_some_iff.1 hv).1
    exact this
  rw [Nat.zero_add, h j hj, ← hv]
  rcases (by omega : j = 0 ∨ j = 1 ∨ j = 2 ∨ j = 3 ∨ j = 4 ∨ j = 5 ∨ j = 6 ∨ j = 7) with rfl | rfl | rfl | rfl | rfl | rfl | rfl | rfl <;> rfl
theorem sha_both {W : World} (h : laidMetH Tryd.prog [("entrust/entrustref02.Constants", Rows.laid_entrust_entrustref02_Constants), ("entrust/entrustref02.Initials", Rows.laid_entrust_entrustref02_Initials), ("entrust/sha.constants", Rows.laid_entrust_sha_constants), ("entrust/sha.initials", Rows.laid_entrust_sha_initials)] W) : RShaIn 1 0 W ∧ ShaIn 3 2 W := by
  rw [MakeChecks.laidMetH_plain _ _ _ (by kernel_rfl)] at h
  obtain ⟨ps, h, -, -⟩ := h
  obtain ⟨h1, ps1, h⟩ := laid_u32 kL h (by kernel_rfl) (by kernel_rfl) Tryd.underlying139 rfl rfl
  obtain ⟨h2, ps2, h⟩ := laid_u32 iH.list h (by kernel_rfl) (by kernel_rfl) Tryd.underlying134 rfl rfl
  obtain ⟨h3, ps3, h⟩ := laid_u32 kL h (by kernel_rfl) (by kernel_rfl) Tryd.underlying139 rfl rfl
  obtain ⟨h4, ps4, h⟩ := laid_u32 iH.list h (by kernel_rfl) (by kernel_rfl) Tryd.underlying134 rfl rfl
  exact ⟨⟨h1, range_iH h2⟩, ⟨h3, range_iH h4⟩⟩
theorem sha_live {W : World} (h : laidMetH Tryd.prog [("entrust/sha.constants", Rows.laid_entrust_sha_constants), ("entrust/sha.initials", Rows.laid_entrust_sha_initials)] W) : ShaIn 3 2 W := by
  rw [MakeChecks.laidMetH_plain _ _ _ (by kernel_rfl)] at h
  obtain ⟨ps, h, -, -⟩ := h
  obtain ⟨h3, ps3, h⟩ := laid_u32 kL h (by kernel_rfl) (by kernel_rfl) Tryd.underlying139 rfl rfl
  obtain ⟨h4, ps4, h⟩ := laid_u32 iH.list h (by kernel_rfl) (by kernel_rfl) Tryd.underlying134 rfl rfl
  exact ⟨h3, range_iH h4⟩
end Go.Proofs.YteeclfejgpgooaaDoor
