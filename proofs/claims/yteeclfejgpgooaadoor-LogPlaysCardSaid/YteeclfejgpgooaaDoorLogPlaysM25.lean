/- Texts of one proof, one behind the other: LkY, LkZ. No condition but each one's own. -/
import Derived.Test.YteeclfejgpgooaaDoorLogPlaysM23
import Derived.Test.YteeclfejgpgooaaDoorLogPlaysM24
import Derived.Test.YteeclfejgpgooaaDoorLogPlaysM11
import Derived.Deep.CutRange
import Derived.Deep.CutBlock
/- LogPlays, walked: the ends ahead of the script. sha's tables and the reference's are as they were laid. No condition else. -/
namespace Go.Proofs.YteeclfejgpgooaaDoor
set_option linter.unusedVariables false
set_option linter.unusedSimpArgs false
set_option linter.constructorNameAsVariable false
open Go.RowKit Go.Sort

section
open Go.ChangeShapes Go.WideShapes
variable {H : Type} {enc : TypeId × Value → H} {w : World}
set_option maxRecDepth 100000 in
/-- Three numbers. -/
theorem open_place {r : Reach} {b0 : Nat} {v : Value} {d : DataW H} {p : List MemPlace} (hv : Value.okWide Tryd.prog w r b0 78 v) (h : DataW.Trod enc Tryd.prog w 0 (fun _ => true) true 78 v d p) :
    ∃ a b c : Int, v = .agg #[.int .i64 a, .int .i64 b, .int .i64 c] ∧ (Lit.int .i64 a).wf = true ∧ (Lit.int .i64 b).wf = true ∧ (Lit.int .i64 c).wf = true := by
  obtain ⟨cs, rfl, hl, hg⟩ := open_array Tryd.underlying78 (by kernel_rfl) (by kernel_rfl) hv h
  match cs, hl with
  | [c0, c1, c2], _ =>
    obtain ⟨_, _, t0⟩ := hg 0 (by simp)
    obtain ⟨_, _, t1⟩ := hg 1 (by simp)
    obtain ⟨_, _, t2⟩ := hg 2 (by simp)
    obtain ⟨a0, e0, _, g0⟩ := DataW.trod_int Tryd.underlying3 t0
    obtain ⟨a1, e1, _, g1⟩ := DataW.trod_int Tryd.underlying3 t1
    obtain ⟨a2, e2, _, g2⟩ := DataW.trod_int Tryd.underlying3 t2
    simp at e0 e1 e2
    subst e0 e1 e2
    exact ⟨a0, a1, a2, rfl, g0, g1, g2⟩
end
set_option maxHeartbeats 2000000
set_option maxRecDepth 100000
/-- Too long, or a disk that is not looked at, or none. -/
theorem plays_none (a b s : Int) (gen : Int) (A : Option Addr) (m c : Nat) (L : List AK) (W : World) (hm : m ≤ maxLen) (hS : Rd (fun b => b < W.heap.size) W 4 A m (L.flatMap AK.cells)) (hl : L.length = m) (hg : ∀ x ∈ L, x.Good W) (h : ¬ (1 ≤ s ∧ s ≤ 100)) :
    Calls Tryd.prog 6 #[.agg #[.int .i64 a, .int .i64 b, .int .i64 s], .int .u32 gen, .slice A m c] W fun e w' => e = .returned (.bool true) ∧ New W w' := by
  have HLO := Lib.hid (fun w (hN : New W w) => long_law A m c L w (hN.rd hS) hl hm (fun x hx => (hg x hx).nn))
  have H := Lib.hid h
  clear hm hS hl hg h
  go_enter Tryd.func6, Tryd.ntmps6
  go_upto_region 1 with fail
  obtain ⟨w1, hw1⟩ : ∃ w1 : World, w1 = W.alloc (.cells #[.int .i64 a, .int .i64 b, .int .i64 s] 78) := ⟨_, rfl⟩
  obtain ⟨b3, hb3⟩ : ∃ b3, b3 = W.heap.size := ⟨_, rfl⟩
  have HN1 : Hid (New W w1) := Lib.hid (by rw [hw1]; exact New.al (New.refl _) _)
  have HB3 : Hid (Blk w1 b3 78 #[.int .i64 a, .int .i64 b, .int .i64 s]) := Lib.hid (by rw [hw1, hb3]; exact Blk.new _ _ _)
  rw [← hw1, ← hb3]
  clear hw1 hb3
  go_wp2_with fail
  refine (alive_any w1).mono ?_
  rintro e w2 ⟨rfl, rfl⟩
  go_wp2_with fail
  refine (HLO.out w1 HN1.out).mono ?_
  rintro e w4 ⟨⟨lb, rfl, hlb⟩, hN4⟩
  have HN4 : Hid (New W w4) := Lib.hid (HN1.out.tr hN4)
  have s2 : w4.cell? ⟨b3, 2, none⟩ = some (.int .i64 s) := (hN4.blk HB3.out).cell 2
  clear hN4 hlb HLO
  rcases lb with _ | _
  rotate_left
  · go_wp2_with fail
    go_ret
    exact ⟨rfl, HN4.out⟩
  by_cases h1 : 100 < s
  · by_cases h2 : s ≤ 16384
    · go_wp2_with fail
      go_ret
      exact ⟨rfl, HN4.out⟩
    · have h3 : (16384 : Int) < s := by omega
      have d2 : decide (s ≤ 16384) = false := decide_eq_false h2
      go_wp2_with fail
      refine (new_bad s w4 (by omega)).mono ?_
      rintro e w5 ⟨rfl, rfl⟩
      go_wp2_with fail
      go_ret
      exact ⟨rfl, HN4.out⟩
  · have d1 : decide ((100 : Int) < s) = false := decide_eq_false h1
    go_wp2_with fail
    refine (new_bad s w4 (by have := H.out; omega)).mono ?_
    rintro e w5 ⟨rfl, rfl⟩
    go_wp2_with fail
    go_ret
    exact ⟨rfl, HN4.out⟩
/-- A place where no log lies. -/
theorem plays_bad (a b : Int) (s : Nat) (gen : Int) (wa : (Lit.int .i64 a).wf = true) (wb : (Lit.int .i64 b).wf = true) (wg : 0 ≤ gen ∧ gen < 4294967296) (A : Option Addr) (m c : Nat) (L : List AK) (W : World) (hL : ShaIn 3 2 W) (hR : RShaIn 1 0 W) (hm : m ≤ maxLen) (hS : Rd (fun b => b < W.heap.size) W 4 A m (L.flatMap AK.cells)) (hl : L.length = m) (hg : ∀ x ∈ L, x.Good W) (h1 : 1 ≤ s) (h2 : s ≤ 100) (h : ¬ GoodAt a b gen s) :
    Calls Tryd.prog 6 #[.agg #[.int .i64 a, .int .i64 b, .int .i64 s], .int .u32 gen, .slice A m c] W fun e w' => e = .returned (.bool true) ∧ New W w' := by
  have HLO := Lib.hid (fun w (hN : New W w) => long_law A m c L w (hN.rd hS) hl hm (fun x hx => (hg x hx).nn))
  have HL := Lib.hid hL
  have HR := Lib.hid hR
  have H := Lib.hid h
  have HW := Lib.hid (And.intro wa (And.intro wb wg))
  have HSZ := Lib.hid (And.intro h1 h2)
  have d1 : decide ((100 : Int) < (s : Int)) = false := decide_eq_false (by omega)
  have d2 : ¬ (100 : Int) < (s : Int) := by omega
  clear hm hS hl hg h hL hR wa wb wg h1 h2
  go_enter Tryd.func6, Tryd.ntmps6
  go_upto_region 1 with fail
  obtain ⟨w1, hw1⟩ : ∃ w1 : World, w1 = W.alloc (.cells #[.int .i64 a, .int .i64 b, .int .i64 s] 78) := ⟨_, rfl⟩
  obtain ⟨b3, hb3⟩ : ∃ b3, b3 = W.heap.size := ⟨_, rfl⟩
  have HN1 : Hid (New W w1) := Lib.hid (by rw [hw1]; exact New.al (New.refl _) _)
  have HB3 : Hid (Blk w1 b3 78 #[.int .i64 a, .int .i64 b, .int .i64 s]) := Lib.hid (by rw [hw1, hb3]; exact Blk.new _ _ _)
  rw [← hw1, ← hb3]
  clear hw1 hb3
  go_wp2_with fail
  refine (alive_any w1).mono ?_
  rintro e w2 ⟨rfl, rfl⟩
  go_wp2_with fail
  refine (HLO.out w1 HN1.out).mono ?_
  rintro e w4 ⟨⟨lb, rfl, hlb⟩, hN4⟩
  have HN4 : Hid (New W w4) := Lib.hid (HN1.out.tr hN4)
  have HB34 : Hid (Blk w4 b3 78 #[.int .i64 a, .int .i64 b, .int .i64 s]) := Lib.hid (hN4.blk HB3.out)
  have s2 : w4.cell? ⟨b3, 2, none⟩ = some (.int .i64 s) := HB34.out.cell 2
  clear hN4 hlb HLO
  rcases lb with _ | _
  rotate_left
  · go_wp2_with fail
    go_ret
    exact ⟨rfl, HN4.out⟩
  go_wp2_with fail
  refine (dnew_l HN4.out s HSZ.out.1 (by have := HSZ.out; omega)).mono ?_
  rintro e w5 ⟨gd, rfl, hD, hN5⟩
  have HD := Lib.hid hD
  have HB35 : Hid (Blk w5 b3 78 #[.int .i64 a, .int .i64 b, .int .i64 s]) := Lib.hid (hN5.blk HB34.out)
  have t2 : w5.cell? ⟨b3, 2, none⟩ = some (.int .i64 s) := HB35.out.cell 2
  clear hD hN5 s2 d1 d2 HN4
  go_wp2_with fail
  refine (rnew_any (s : Int) w5).mono ?_
  rintro e w6 ⟨rfl, hN6⟩
  obtain ⟨RV, hRV⟩ : ∃ RV, RV = RfV (RP.new s) none 0 none 0 := ⟨_, rfl⟩
  have HRV : Hid (RV = RfV (RP.new s) none 0 none 0 ∧ RV.size = 5 ∧ RV.all (·.oneCell') = true) := Lib.hid (by rw [hRV]; exact ⟨rfl, rfl, rf_all _ _ _ _ _⟩)
  rw [← hRV]
  have HD6 : Hid (Dkl W w6 gd (DP.new s)) := Lib.hid (HD.out.new hN6)
  have HB36 : Hid (Blk w6 b3 78 #[.int .i64 a, .int .i64 b, .int .i64 s]) := Lib.hid (hN6.blk HB35.out)
  clear hN6 hRV t2 HD
  go_upto_region 9 with ((with_reducible refine atOp ⟨some 9, .alloc _, _, _, _, _⟩ ?_); refine wpList_newrow rfl rfl rfl _ _ rfl rInfo (by rfl) rfl rfl HRV.out.2.1 HRV.out.2.2 ?_)
  obtain ⟨w7, hw7⟩ : ∃ w7 : World, w7 = w6.alloc (.cells RV 32) := ⟨_, rfl⟩
  obtain ⟨b9, hb9⟩ : ∃ b9, b9 = w6.heap.size := ⟨_, rfl⟩
  have HN7 : Hid (New w6 w7) := Lib.hid (by rw [hw7]; exact New.al (New.refl _) _)
  have HB9 : Hid (Blk w7 b9 32 RV) := Lib.hid (by rw [hw7, hb9]; exact Blk.new _ _ _)
  have HZ9 : Hid (W.heap.size ≤ b9) := Lib.hid (by rw [hb9]; exact HD6.out.nw.size)
  have HB37 : Hid (Blk w7 b3 78 #[.int .i64 a, .int .i64 b, .int .i64 s]) := Lib.hid (HN7.out.blk HB36.out)
  have HD7 : Hid (Dkl W w7 gd (DP.new s)) := Lib.hid (HD6.out.new HN7.out)
  rw [← hw7, ← hb9]
  have t0 : w7.cell? ⟨b3, 0, none⟩ = some (.int .i64 a) := HB37.out.cell 0
  have t1 : w7.cell? ⟨b3, 1, none⟩ = some (.int .i64 b) := HB37.out.cell 1
  clear hw7 hb9 HD6
  go_wp2_with fail
  obtain ⟨bs, bf, v, h1, h2⟩ := HD7.out
  refine (open_bad h1 a b gen HW.out.1 HW.out.2.1 HW.out.2.2.1 H.out).mono ?_
  rintro e w8 ⟨rfl, rfl⟩
  clear h1 h2
  go_wp2_with (first
    | ((with_reducible refine atOp ⟨some 59, .load _ _, _, _, _, _⟩ ?_); refine wpList_load_any rfl _ rfl Tryd.underlying32 rfl (by rw [HRV.out.2.1]; rfl) rfl HB9.out ?_))
  rw [HRV.out.1]
  refine (ropen_bad (RP.new s) none 0 none 0 s rfl (by have := HSZ.out; omega) a b gen HW.out.1 HW.out.2.1 HW.out.2.2.1 H.out).mono ?_
  rintro e w9 ⟨rfl, hN9⟩
  rw [← HRV.out.1]
  have HB99 : Hid (Blk w9 b9 32 RV) := Lib.hid (hN9.blk HB9.out)
  have HN9 : Hid (New W w9) := Lib.hid (HD7.out.nw.tr hN9)
  clear hN9 t0 t1
  have HNUM : Hid (∀ W, Calls Tryd.prog 14 #[.iface 63 (.int .i64 1)] W fun e w' => e = .returned (.int .i64 1) ∧ W = w') := Lib.hid fun W => num_errD 1 W
  go_upto_region 11 with (first
    | ((with_reducible refine atOp ⟨some 12, .alloc _, _, _, _, _⟩ ?_); refine wpList_alloc_row rfl rfl rlInfo ?_; intro b12 wa hb hB hN; have HB12 := Lib.hid hB; have HNa := Lib.hid hN; have HZ12 := Lib.hid hb; clear hb hB hN)
    | ((with_reducible refine atOp ⟨none, .store 32 (.tmp 9) _, _, _, _, _⟩ ?_); refine wpList_store_any rfl (.tmp 9) (.tmp 66) rfl (by rw [HRV.out.2.1]; rfl) rfl rfl (HNa.out.blk HB99.out) rfl HRV.out.2.2 ?_; intro wb hb hf; have HFb := Lib.hid hf; have HB12b : Hid (Blk wb b12 45 rl0) := Lib.hid (HB12.out.fr hf (fun e => Blk.ne_ HB12.out (HNa.out.blk HB99.out) (by decide) e)); clear hb hf)
    | ((with_reducible refine atOp ⟨none, .store 45 (.tmp 12) _, _, _, _, _⟩ ?_); refine wpList_store_any (cs := rl0) rfl (.tmp 12) (.tmp 67) rfl rfl rfl rfl HB12b.out rfl (by simp [rl0, Value.oneCell']) ?_; intro wc hb hf; have HFc := Lib.hid hf; clear hb hf))
  have HNc : Hid (New W wc) := Lib.hid (((HN9.out.tr HNa.out).fr HFb.out (fun k hk => by have hk' : k = b9 := hk; have := HZ9.out; omega)).fr HFc.out (fun k hk => by have hk' : k = b12 := hk; have h1 := HZ12.out; have h2 := HN9.out.size; omega))
  go_wp2_with fail
  refine (HNUM.out wc).mono ?_
  rintro e wd ⟨rfl, rfl⟩
  go_wp2_with fail
  refine (HNUM.out wc).mono ?_
  rintro e wd ⟨rfl, rfl⟩
  go_wp2_with fail
  go_ret
  exact ⟨rfl, HNc.out⟩
end Go.Proofs.YteeclfejgpgooaaDoor
/- LogPlays, walked: the script. sha's tables and the reference's are as they were laid. No condition else. -/
namespace Go.Proofs.YteeclfejgpgooaaDoor
set_option linter.unusedVariables false
set_option linter.unusedSimpArgs false
set_option linter.constructorNameAsVariable false
open Go.RowKit Go.Sort

/-- Both sides behind so many acts. -/
structure BothL (W w : World) (b3 b9 b12 gd gl j a b s gen : Nat) (p : DP) (l : LG) (r : RP) (A1 : Option Addr) (c1 : Nat) (A2 : Option Addr) (c2 : Nat) (B : Option Addr) (c : Nat) (va vw : Value) (R : List (List Int)) : Prop where
  lg : Lgl W w gd gl p l
  mt : Mt p r
  rs : Rest W w b9 b12 r A1 c1 A2 c2 l B c va vw R
  b3 : Blk w b3 78 #[.int .i64 a, .int .i64 b, .int .i64 s]
  tot : r.tot ≤ 100 * (j + 1)
  sz : p.size = s
  lz : l.size = b ∧ l.gen = gen
  rl : R.length ≤ 1000
theorem BothL.new {W w w' : World} {b3 b9 b12 gd gl j a b s gen : Nat} {p : DP} {l : LG} {r : RP} {A1 : Option Addr} {c1 : Nat} {A2 : Option Addr} {c2 : Nat} {B : Option Addr} {c : Nat} {va vw : Value} {R : List (List Int)} (h : BothL W w b3 b9 b12 gd gl j a b s gen p l r A1 c1 A2 c2 B c va vw R) (hN : New w w') : BothL W w' b3 b9 b12 gd gl j a b s gen p l r A1 c1 A2 c2 B c va vw R :=
  ⟨h.lg.new hN, h.mt, h.rs.new hN, hN.blk h.b3, h.tot, h.sz, h.lz, h.rl⟩
theorem appL_same (p : DP) (l : LG) (b : List Int) : (appL p l b).2.1.size = l.size ∧ (appL p l b).2.1.gen = l.gen := by
  unfold appL
  split
  · exact ⟨rfl, rfl⟩
  split
  · exact ⟨rfl, rfl⟩
  split
  · exact ⟨rfl, rfl⟩
  simp only
  split
  · exact ⟨rfl, rfl⟩
  · exact ⟨rfl, rfl⟩
theorem ropen_both {w : World} {p q2 : DP} {tot : Nat} {a b gen : Nat} {R : List (List Int)} {l : LG} {f : FuncId} {args : Array Value} (h : Calls Tryd.prog f args w (ROpenSays w (runL p (lg0 a b gen)) (wipeL p (runL p (lg0 a b gen)).1) tot)) (ho : opn p a b gen = ⟨q2, 0, R, some l⟩) (hG : True) :
    Calls Tryd.prog f args w fun e w' => ∃ r' A1 c1 A2 c2 B c C cc, e = .returned (.tuple #[.agg (RfV r' A1 c1 A2 c2), .agg (rlV l B c), .slice C R.length cc, .int .i64 0]) ∧ RfIn w' r' A1 A2 ∧ Mt q2 r' ∧ r'.tot ≤ tot ∧ RlIn w' l B ∧ Recs w.heap.size w' (.slice C R.length cc) R ∧ New w w' := by
  refine h.mono fun e w' hs => ?_
  unfold opn at ho
  split at ho
  · split at ho
    · next h0 =>
      have h0' : (wipeL p (runL p (lg0 a b gen)).1).2 = 0 := h0
      unfold ROpenSays at hs
      rw [if_pos h0'] at hs
      injection ho with e1 e2 e3 e4
      injection e4 with e4
      have e1' : (wipeL p (runL p (lg0 a b gen)).1).1 = q2 := e1
      have e3' : (runL p (lg0 a b gen)).2 = R := e3
      have e4' : (runL p (lg0 a b gen)).1 = l := e4
      rw [e1', e3', e4'] at hs
      exact hs
    · next h0 => injection ho with e1 e2 e3 e4; cases e4
  · injection ho with e1 e2 e3 e4; cases e4
/-- What opens a clean disk of both sides. -/
theorem opn_good {q : DP} (cl : Clean q) {a b gen s : Nat} (hs : q.size = s) (hb : 1 ≤ b) (hab : a + b ≤ s) (hg : gen < 4294967296) (hg0 : gen ≠ 0) :
    ∃ q2 R l, opn q a b gen = ⟨q2, 0, R, some l⟩ ∧ Clean q2 ∧ q2.size = s ∧ l.size = b ∧ l.gen = gen ∧ R.length ≤ b + 1 ∧ l.Ok s := by
  have hG : GoodAt (a : Int) b gen q.size := ⟨by omega, by omega, by omega, by omega, by omega⟩
  have h := opn_clean cl hG (by omega)
  have hl0 : (lg0 a b gen).Ok q.size := lg0_ok (by omega) hg
  obtain ⟨r1, r2, r3, r4, -⟩ := runs_ok cl.ok hl0 ((lg0 a b gen).size + 1)
  exact ⟨_, _, _, h.1, h.2.1, h.2.2.trans hs, r2, r4, runs_le _, by rw [← hs]; exact r1⟩
set_option maxHeartbeats 4000000
set_option maxRecDepth 100000
theorem plays_main (a b s gen : Nat) (A : Option Addr) (m c : Nat) (L : List AK) (W : World) (hL : ShaIn 3 2 W) (hR : RShaIn 1 0 W) (hm : m ≤ maxLen) (hS : Rd (fun b => b < W.heap.size) W 4 A m (L.flatMap AK.cells)) (hl : L.length = m) (hg : ∀ x ∈ L, x.Good W) (h1 : 1 ≤ s) (h2 : s ≤ 100) (hb : 1 ≤ b) (hab : a + b ≤ s) (hgen : gen < 4294967296) (hg0 : gen ≠ 0) :
    Calls Tryd.prog 6 #[.agg #[.int .i64 a, .int .i64 b, .int .i64 s], .int .u32 gen, .slice A m c] W fun e w' => e = .returned (.bool true) ∧ New W w' := by
  have HLO := Lib.hid (fun w (hN : New W w) => long_law A m c L w (hN.rd hS) hl hm (fun x hx => (hg x hx).nn))
  have HL := Lib.hid hL
  have HR := Lib.hid hR
  have HS := Lib.hid hS
  have HLL := Lib.hid hl
  have HG := Lib.hid hg
  have HSZ : Hid (1 ≤ s ∧ s ≤ 100 ∧ 1 ≤ b ∧ a + b ≤ s ∧ gen < 4294967296 ∧ gen ≠ 0) := Lib.hid ⟨h1, h2, hb, hab, hgen, hg0⟩
  have HWA : Hid ((Lit.int .i64 (a : Int)).wf = true ∧ (Lit.int .i64 (b : Int)).wf = true) := Lib.hid ⟨WalkArith.wf_i64 (by omega), WalkArith.wf_i64 (by omega)⟩
  have d1 : decide ((100 : Int) < (s : Int)) = false := decide_eq_false (by omega)
  have d2 : ¬ (100 : Int) < (s : Int) := by omega
  clear hm hS hl hg hL hR h1 h2 hb hab hgen hg0
  go_enter Tryd.func6, Tryd.ntmps6
  go_upto_region 1 with fail
  obtain ⟨w1, hw1⟩ : ∃ w1 : World, w1 = W.alloc (.cells #[.int .i64 a, .int .i64 b, .int .i64 s] 78) := ⟨_, rfl⟩
  obtain ⟨b3, hb3⟩ : ∃ b3, b3 = W.heap.size := ⟨_, rfl⟩
  have HN1 : Hid (New W w1) := Lib.hid (by rw [hw1]; exact New.al (New.refl _) _)
  have HB3 : Hid (Blk w1 b3 78 #[.int .i64 a, .int .i64 b, .int .i64 s]) := Lib.hid (by rw [hw1, hb3]; exact Blk.new _ _ _)
  rw [← hw1, ← hb3]
  clear hw1 hb3
  go_wp2_with fail
  refine (alive_any w1).mono ?_
  rintro e w2 ⟨rfl, rfl⟩
  go_wp2_with fail
  refine (HLO.out w1 HN1.out).mono ?_
  rintro e w4 ⟨⟨lb, rfl, hlb⟩, hN4⟩
  have HN4 : Hid (New W w4) := Lib.hid (HN1.out.tr hN4)
  have HB34 : Hid (Blk w4 b3 78 #[.int .i64 a, .int .i64 b, .int .i64 s]) := Lib.hid (hN4.blk HB3.out)
  have s2 : w4.cell? ⟨b3, 2, none⟩ = some (.int .i64 s) := HB34.out.cell 2
  have HLB := Lib.hid hlb
  clear hN4 hlb HLO
  rcases lb with _ | _
  rotate_left
  · go_wp2_with fail
    go_ret
    exact ⟨rfl, HN4.out⟩
  have HM : Hid (m ≤ 30) := Lib.hid (HLB.out rfl)
  clear HLB
  go_wp2_with fail
  refine (dnew_l HN4.out s HSZ.out.1 (by have := HSZ.out; omega)).mono ?_
  rintro e w5 ⟨gd, rfl, hD, hN5⟩
  have HD := Lib.hid hD
  have HB35 : Hid (Blk w5 b3 78 #[.int .i64 a, .int .i64 b, .int .i64 s]) := Lib.hid (hN5.blk HB34.out)
  have t2 : w5.cell? ⟨b3, 2, none⟩ = some (.int .i64 s) := HB35.out.cell 2
  clear hD hN5 s2 d1 d2 HN4
  go_wp2_with fail
  refine (rnew_any (s : Int) w5).mono ?_
  rintro e w6 ⟨rfl, hN6⟩
  obtain ⟨RV, hRV⟩ : ∃ RV, RV = RfV (RP.new s) none 0 none 0 := ⟨_, rfl⟩
  have HRV : Hid (RV = RfV (RP.new s) none 0 none 0 ∧ RV.size = 5 ∧ RV.all (·.oneCell') = true) := Lib.hid (by rw [hRV]; exact ⟨rfl, rfl, rf_all _ _ _ _ _⟩)
  rw [← hRV]
  have HD6 : Hid (Dkl W w6 gd (DP.new s)) := Lib.hid (HD.out.new hN6)
  have HB36 : Hid (Blk w6 b3 78 #[.int .i64 a, .int .i64 b, .int .i64 s]) := Lib.hid (hN6.blk HB35.out)
  clear hN6 hRV t2 HD
  go_upto_region 9 with ((with_reducible refine atOp ⟨some 9, .alloc _, _, _, _, _⟩ ?_); refine wpList_newrow rfl rfl rfl _ _ rfl rInfo (by rfl) rfl rfl HRV.out.2.1 HRV.out.2.2 ?_)
  obtain ⟨w7, hw7⟩ : ∃ w7 : World, w7 = w6.alloc (.cells RV 32) := ⟨_, rfl⟩
  obtain ⟨b9, hb9⟩ : ∃ b9, b9 = w6.heap.size := ⟨_, rfl⟩
  have HN7 : Hid (New w6 w7) := Lib.hid (by rw [hw7]; exact New.al (New.refl _) _)
  have HB9 : Hid (Blk w7 b9 32 RV) := Lib.hid (by rw [hw7, hb9]; exact Blk.new _ _ _)
  have HZ9 : Hid (W.heap.size ≤ b9) := Lib.hid (by rw [hb9]; exact HD6.out.nw.size)
  have HB37 : Hid (Blk w7 b3 78 #[.int .i64 a, .int .i64 b, .int .i64 s]) := Lib.hid (HN7.out.blk HB36.out)
  have HD7 : Hid (Dkl W w7 gd (DP.new s)) := Lib.hid (HD6.out.new HN7.out)
  rw [← hw7, ← hb9]
  have t0 : w7.cell? ⟨b3, 0, none⟩ = some (.int .i64 a) := HB37.out.cell 0
  have t1 : w7.cell? ⟨b3, 1, none⟩ = some (.int .i64 b) := HB37.out.cell 1
  clear hw7 hb9 HD6
  obtain ⟨q0, R0, l0, ho, hcl, hqz, hlz, hlg, hRl, hlok⟩ := opn_good (Clean.new (n := s) HSZ.out.1 (by have := HSZ.out; omega)) rfl HSZ.out.2.2.1 HSZ.out.2.2.2.1 HSZ.out.2.2.2.2.1 HSZ.out.2.2.2.2.2
  have HOPN := Lib.hid ho
  have HQ : Hid (q0.size = s ∧ l0.size = b ∧ l0.gen = gen ∧ R0.length ≤ b + 1 ∧ l0.Ok s) := Lib.hid ⟨hqz, hlz, hlg, hRl, hlok⟩
  clear ho hcl hqz hlz hlg hRl hlok
  go_wp2_with fail
  refine (open_l HD7.out HL.out a b gen HWA.out.1 HWA.out.2 (by have := HSZ.out; omega) HOPN.out HQ.out.1).mono ?_
  rintro e w8 ⟨gl, Aa, ca, rfl, hLg, hRa, hK⟩
  have HLg := Lib.hid hLg
  have HRa : Hid (RecsK W.heap.size w8 (.slice Aa R0.length ca) R0) := Lib.hid (hRa.base HD7.out.nw.size).toK
  have HB98 : Hid (Blk w8 b9 32 RV) := Lib.hid (hK.blk HB9.out (by decide) (by decide) (by decide))
  have HB38 : Hid (Blk w8 b3 78 #[.int .i64 a, .int .i64 b, .int .i64 s]) := Lib.hid (hK.blk HB37.out (by decide) (by decide) (by decide))
  have u0 : w8.cell? ⟨b3, 0, none⟩ = some (.int .i64 a) := HB38.out.cell 0
  have u1 : w8.cell? ⟨b3, 1, none⟩ = some (.int .i64 b) := HB38.out.cell 1
  clear hLg hRa hK HD7 HB9 HB37 t0 t1
  go_wp2_with ((with_reducible refine atOp ⟨some 59, .load _ _, _, _, _, _⟩ ?_); refine wpList_load_any rfl _ rfl Tryd.underlying32 rfl (by rw [HRV.out.2.1]; rfl) rfl HB98.out ?_)
  have hro := ropen_good (w := w8) (p := DP.new s) (RP.new s) none 0 none 0 ⟨RdT.nil, RdT.nil, by show (RP.new (s : Int)).Ok; simp [RP.new, RP.Ok]⟩ (Mt.new s) (DP.new_ok HSZ.out.1 (by have := HSZ.out; omega)) (by simp [RP.new, RP.tot]) (HR.out.new HLg.out.nw) a b gen HSZ.out.2.2.1 HSZ.out.2.2.2.1 HSZ.out.2.2.2.2.1 HSZ.out.2.2.2.2.2
  rw [← HRV.out.1] at hro
  refine (ropen_both hro HOPN.out trivial).mono ?_
  rintro e w9 ⟨r9, A1, c1, A2, c2, B, cB, C, cC, rfl, hRf, hM, htt, hRl, hRc, hN9⟩
  obtain ⟨RN, hRN⟩ : ∃ RN, RN = RfV r9 A1 c1 A2 c2 := ⟨_, rfl⟩
  have HRN : Hid (RN = RfV r9 A1 c1 A2 c2 ∧ RN.size = 5 ∧ RN.all (·.oneCell') = true) := Lib.hid (by rw [hRN]; exact ⟨rfl, rfl, rf_all _ _ _ _ _⟩)
  obtain ⟨YL, hYL⟩ : ∃ YL, YL = rlV l0 B cB := ⟨_, rfl⟩
  have HYL : Hid (YL = rlV l0 B cB ∧ YL.size = 6 ∧ YL.all (·.oneCell') = true) := Lib.hid (by rw [hYL]; exact ⟨rfl, rfl, rl_all _ _ _⟩)
  rw [← hRN, ← hYL]
  have HM9 := Lib.hid hM
  have HT9 : Hid (r9.tot ≤ 100) := Lib.hid (by have h : r9.tot ≤ (RP.new (s : Int)).tot + b := htt; have h3 : (RP.new (s : Int)).tot = 0 := rfl; have := HSZ.out; omega)
  have HRF9 := Lib.hid hRf
  have HRL9 := Lib.hid hRl
  have HRW9 : Hid (RecsK W.heap.size w9 (.slice C R0.length cC) R0) := Lib.hid (hRc.base HLg.out.nw.size).toK
  have HB99 : Hid (Blk w9 b9 32 RV) := Lib.hid (hN9.blk HB98.out)
  have HLg9 : Hid (Lgl W w9 gd gl q0 l0) := Lib.hid (HLg.out.new hN9)
  have HRa9 : Hid (RecsK W.heap.size w9 (.slice Aa R0.length ca) R0) := Lib.hid (HRa.out.new hN9)
  have HB39 : Hid (Blk w9 b3 78 #[.int .i64 a, .int .i64 b, .int .i64 s]) := Lib.hid (hN9.blk HB38.out)
  clear hRf hM htt hRl hRc hN9 hRN hYL hro u0 u1 HLg HRa HB98 HB38
  go_upto_region 11 with (first
    | ((with_reducible refine atOp ⟨some 12, .alloc _, _, _, _, _⟩ ?_); refine wpList_alloc_row rfl rfl rlInfo ?_; intro b12 wa hb hB hN; have HB12 := Lib.hid hB; have HNa := Lib.hid hN; have HZ12 := Lib.hid hb; clear hb hB hN)
    | ((with_reducible refine atOp ⟨none, .store 32 (.tmp 9) _, _, _, _, _⟩ ?_); refine wpList_store_any rfl (.tmp 9) (.tmp 66) rfl (by rw [HRN.out.2.1]; rfl) rfl rfl (HNa.out.blk HB99.out) (by rw [HRV.out.2.1, HRN.out.2.1]) HRN.out.2.2 ?_; intro wb hb hf; have HB9b := Lib.hid hb; have HFb := Lib.hid hf; have HB12b : Hid (Blk wb b12 45 rl0) := Lib.hid (HB12.out.fr hf (fun e => Blk.ne_ HB12.out (HNa.out.blk HB99.out) (by decide) e)); clear hb hf)
    | ((with_reducible refine atOp ⟨none, .store 45 (.tmp 12) _, _, _, _, _⟩ ?_); refine wpList_store_any (cs := YL) rfl (.tmp 12) (.tmp 67) rfl (by rw [HYL.out.2.1]; rfl) rfl rfl HB12b.out (by rw [HYL.out.2.1]; rfl) HYL.out.2.2 ?_; intro wc hb hf; have HB12c := Lib.hid hb; have HFc := Lib.hid hf; clear hb hf))
  have HLT : Hid (W.heap.size ≤ b9 ∧ W.heap.size ≤ b12 ∧ b12 ≠ b9) := Lib.hid (by have h1 := HZ9.out; have h2 := HZ12.out; have h3 := HB99.out.lt; have h4 := HLg9.out.nw.size; omega)
  have HBO : Hid (BothL W wc b3 b9 b12 gd gl 0 a b s gen q0 l0 r9 A1 c1 A2 c2 B cB (.slice Aa R0.length ca) (.slice C R0.length cC) R0) := Lib.hid (by
    have hB9a := HNa.out.blk HB99.out
    have k1 : Lgl W wc gd gl q0 l0 := ((HLg9.out.new HNa.out).st hB9a HFb.out HLT.out.1 (by decide) (by decide) (by decide)).st HB12b.out HFc.out HLT.out.2.1 (by decide) (by decide) (by decide)
    have n9 : ∀ k, k = b9 → ¬ IsT 92 wa k := fun k hk => by rw [hk]; exact IsT.not_blk hB9a (by decide)
    have r1 : RfIn wb r9 A1 A2 := (HRF9.out.new HNa.out).fr HFb.out n9
    have r2 : RfIn wc r9 A1 A2 := r1.fr HFc.out (fun k hk => by rw [show k = b12 from hk]; exact IsT.not_blk HB12b.out (by decide))
    have l1 : RlIn wb l0 B := (HRL9.out.new HNa.out).fr HFb.out (fun k hk => by rw [show k = b9 from hk]; exact IsT.not_blk hB9a (by decide))
    have l2 : RlIn wc l0 B := l1.fr HFc.out (fun k hk => by rw [show k = b12 from hk]; exact IsT.not_blk HB12b.out (by decide))
    have a2 : RecsK W.heap.size wc (.slice Aa R0.length ca) R0 := ((HRa9.out.new HNa.out).st hB9a HFb.out HLT.out.1 (by decide) (by decide)).st HB12b.out HFc.out HLT.out.2.1 (by decide) (by decide)
    have w2 : RecsK W.heap.size wc (.slice C R0.length cC) R0 := ((HRW9.out.new HNa.out).st hB9a HFb.out HLT.out.1 (by decide) (by decide)).st HB12b.out HFc.out HLT.out.2.1 (by decide) (by decide)
    have b3c : Blk wc b3 78 #[.int .i64 a, .int .i64 b, .int .i64 s] := ((HNa.out.blk HB39.out).fr HFb.out (fun e => Blk.ne_ (HNa.out.blk HB39.out) hB9a (by decide) e)).fr HFc.out (fun e => Blk.ne_ ((HNa.out.blk HB39.out).fr HFb.out (fun e => Blk.ne_ (HNa.out.blk HB39.out) hB9a (by decide) e)) HB12b.out (by decide) e)
    exact ⟨k1, HM9.out, ⟨r2, by rw [← HRN.out.1]; exact HB9b.out.fr HFc.out (fun e => HLT.out.2.2 (by have e' : b9 = b12 := e; omega)), l2, by rw [← HYL.out.1]; exact HB12c.out, a2, w2⟩, b3c, by have := HT9.out; omega, HQ.out.1, ⟨HQ.out.2.1, HQ.out.2.2.1⟩, by have := HQ.out.2.2.2.1; have := HSZ.out; omega⟩)
  obtain ⟨rn0, hrn0⟩ : ∃ n, n = R0.length := ⟨_, rfl⟩
  rw [← hrn0] at HBO
  rw [← hrn0]
  clear hrn0 HB12 HNa HZ12 HB9b HFb HB12b HB12c HFc HRF9 HRL9 HRW9 HLg9 HRa9 HB39 HB99 HM9 HT9 HQ HOPN HRV HRN HYL HZ9
  go_wp2_with fail
  refine (num_errD 0 wc).mono ?_
  rintro e wd ⟨rfl, rfl⟩
  go_wp2_with fail
  go_loopw [88, 10, 11, 13] (fun i lv xa xw wr => ∃ (j : Nat) (gl : Nat) (p : DP) (l : LG) (r : RP) (A1 : Option Addr) (c1 : Nat) (A2 : Option Addr) (c2 : Nat) (B : Option Addr) (cB : Nat) (va vw : Value) (R : List (List Int)), Hid (j ≤ m) ∧ i = .int .i64 (j : Int) ∧ lv = .pointer (some ⟨gl, 0, none⟩) ∧ va = xa ∧ vw = xw ∧ Hid (BothL W wr b3 b9 b12 gd gl j a b s gen p l r A1 c1 A2 c2 B cB va vw R)) (fun i _ _ _ _ => m - (intOf i).toNat)
  case atStart => exact ⟨0, gl, q0, l0, r9, A1, c1, A2, c2, B, cB, _, _, R0, Lib.hid (Nat.zero_le _), rfl, rfl, rfl, rfl, HBO⟩
  case round =>
    clear HBO
    obtain ⟨j, gl, p, l, r, A1, c1, A2, c2, B, cB, va, vw, R, HJ, rfl, rfl, rfl, rfl, HBO⟩ := hrel
    by_cases hj : j < m
    · have hlt : (j : Int) < (m : Int) := by omega
      have hj0 : (0 : Int) ≤ (j : Int) := by omega
      have HJ2 := Lib.hid hj
      have e1 : IntKind.i64.wrap ((j : Int) + 1) = (j : Int) + 1 := IntWalk.i64_in _ (by have := HM.out; omega)
      obtain ⟨g, o, hl, rfl, -, -, hrg⟩ := rd_row (f := AK.cells) (L := L) (fun _ => rfl) (by omega) (HBO.out.lg.nw.rd HS.out) hj
      have c0 : wr.cell? ⟨g, o + j * 4, none⟩ = some (.int .i64 L[j].kind) := hrg 0 _ rfl
      have c1' := hrg 1 _ rfl
      have c2' := hrg 2 _ rfl
      have c3' := hrg 3 _ rfl
      have HXG : Hid (L[j].Good W) := Lib.hid (HG.out _ (List.getElem_mem _))
      generalize L[j] = x at c0 c1' c2' c3' HXG
      obtain ⟨kd, nm, xA, xn, xc, xs, yA, yn, yc, ys⟩ := x
      dsimp only at c0 c1' c2' c3'
      clear hj hrg hl
      go_upto_region 16 with fail
      obtain ⟨w7, hw7⟩ : ∃ w7 : World, w7 = wr.alloc (.cells #[.int .i64 kd, .int .i64 nm, .slice xA xn xc, .slice yA yn yc] 73) := ⟨_, rfl⟩
      obtain ⟨b16, hb16⟩ : ∃ b16, b16 = wr.heap.size := ⟨_, rfl⟩
      have HBO7 : Hid (BothL W w7 b3 b9 b12 gd gl j a b s gen p l r A1 c1 A2 c2 B cB va vw R) := Lib.hid (HBO.out.new (by rw [hw7]; exact New.al (New.refl _) _))
      have HB16 : Hid (Blk w7 b16 73 #[.int .i64 kd, .int .i64 nm, .slice xA xn xc, .slice yA yn yc]) := Lib.hid (by rw [hw7, hb16]; exact Blk.new _ _ _)
      rw [← hw7, ← hb16]
      clear hw7 hb16 HBO c0 c1' c2' c3'
      have x0 : w7.cell? ⟨b16, 0, none⟩ = some (.int .i64 kd) := HB16.out.cell 0
      have x1 : w7.cell? ⟨b16, 1, none⟩ = some (.int .i64 nm) := HB16.out.cell 1
      have x2 : w7.cell? ⟨b16, 2, none⟩ = some (.slice xA xn xc) := HB16.out.cell 2
      have x3 : w7.cell? ⟨b16, 3, none⟩ = some (.slice yA yn yc) := HB16.out.cell 3
      by_cases h100 : 100 < yn
      · have hq1 : decide ((100 : Int) < (yn : Int)) = true := decide_eq_true (by omega)
        have hq3 : (100 : Int) < (yn : Int) := by omega
        clear h100
        go_wp2_with fail
        go_ret
        exact ⟨rfl, HBO7.out.lg.nw⟩
      have hq1 : decide ((100 : Int) < (yn : Int)) = false := decide_eq_false (by omega)
      have hq3 : ¬ ((100 : Int) < (yn : Int)) := by omega
      clear h100
      go_upto_block 2 with fail
      obtain ⟨q, hq⟩ : ∃ q, q = (IntKind.u64.wrap kd).tmod 7 := ⟨_, rfl⟩
      rw [← hq]
      clear hq hq1 hq3
      have HTB : Hid (100 * (j + 1) ≤ 3000) := Lib.hid (by have := HJ2.out; have := HM.out; omega)
      go_cut [10, 11, 13, 17, 18, 88] from 88 to 222 (fun s10 s11 s13 s17 s18 s88 wx => s88 = .int .i64 (j : Int) ∧ ∃ (gl : Nat) (p : DP) (l : LG) (r : RP) (A1 : Option Addr) (c1 : Nat) (A2 : Option Addr) (c2 : Nat) (B : Option Addr) (cB : Nat) (va vw : Value) (R : List (List Int)) (bad : Int), s10 = .pointer (some ⟨gl, 0, none⟩) ∧ va = s11 ∧ vw = s13 ∧ s17 = .int .i64 bad ∧ s18 = errD bad ∧ Hid (BothL W wx b3 b9 b12 gd gl (j + 1) a b s gen p l r A1 c1 A2 c2 B cB va vw R))
      case first =>
        by_cases h3 : q = 3
        · subst h3
          obtain ⟨RV, hRV⟩ : ∃ RV, RV = RfV r A1 c1 A2 c2 := ⟨_, rfl⟩
          have HRV : Hid (RV = RfV r A1 c1 A2 c2 ∧ RV.size = 5) := Lib.hid (by rw [hRV]; exact ⟨rfl, rfl⟩)
          have HB97 : Hid (Blk w7 b9 32 RV) := Lib.hid (by rw [hRV]; exact HBO7.out.rs.b9)
          clear hRV
          go_wp2_with (first
            | ((with_reducible refine atOp ⟨some 116, .load _ _, _, _, _, _⟩ ?_); refine wpList_load_any rfl _ rfl Tryd.underlying32 rfl (by rw [HRV.out.2]; rfl) rfl HB97.out ?_))
          rw [HRV.out.1]
          refine (rsync_any r A1 c1 A2 c2 w7 HBO7.out.rs.rf (by have := HBO7.out.tot; have := HTB.out; omega)).mono ?_
          rintro e wa ⟨⟨B1, d1, B2, d2, rfl, hRf⟩, hNa⟩
          rw [← HRV.out.1]
          have hcode : r.scode = p.scode := HBO7.out.mt.scode
          rw [hcode]
          obtain ⟨sc, hsc⟩ : ∃ sc, sc = p.scode := ⟨_, rfl⟩
          have HSC := Lib.hid hsc
          rw [← hsc]
          have HMT : Hid (Mt p.doSync r.sync ∧ r.sync.tot ≤ r.tot) := Lib.hid ⟨HBO7.out.mt.sync, RP.tot_sync r⟩
          obtain ⟨r2, hr2⟩ : ∃ r2, r2 = r.sync := ⟨_, rfl⟩
          rw [← hr2] at hRf HMT ⊢
          obtain ⟨RN, hRN⟩ : ∃ RN, RN = RfV r2 B1 d1 B2 d2 := ⟨_, rfl⟩
          have HRN : Hid (RN = RfV r2 B1 d1 B2 d2 ∧ RN.size = 5 ∧ RN.all (·.oneCell') = true) := Lib.hid (by rw [hRN]; exact ⟨rfl, rfl, rf_all _ _ _ _ _⟩)
          rw [← hRN]
          clear hRN
          have HRf := Lib.hid hRf
          have HBOa : Hid (BothL W wa b3 b9 b12 gd gl j a b s gen p l r A1 c1 A2 c2 B cB va vw R) := Lib.hid (HBO7.out.new hNa)
          have HB9a : Hid (Blk wa b9 32 RV) := Lib.hid (hNa.blk HB97.out)
          clear hcode hsc hr2 hRf hNa HBO7 HB16 x0 x1 x2 x3 HB97
          go_wp2_with ((with_reducible refine atOp ⟨none, .store 32 (.tmp 9) _, _, _, _, _⟩ ?_); refine wpList_store_any rfl (.tmp 9) (.tmp 118) rfl (by rw [HRN.out.2.1]; rfl) rfl rfl HB9a.out (by rw [HRV.out.2, HRN.out.2.1]) HRN.out.2.2 ?_; intro wb hb hf; have HB9wb := Lib.hid hb; have HFwb := Lib.hid hf; clear hb hf)
          have HLgb : Hid (Lgl W wb gd gl p l) := Lib.hid (HBOa.out.lg.st HB9a.out HFwb.out HLT.out.1 (by decide) (by decide) (by decide))
          have HRSb : Hid (Rest W wb b9 b12 r2 B1 d1 B2 d2 l B cB va vw R) := Lib.hid (HBOa.out.rs.set9 HRf.out (by rw [← HRN.out.1]; exact HB9wb.out) HFwb.out HLT.out.1)
          have HB3b : Hid (Blk wb b3 78 #[.int .i64 a, .int .i64 b, .int .i64 s]) := Lib.hid (HBOa.out.b3.fr HFwb.out (fun e => Blk.ne_ HBOa.out.b3 HB9a.out (by decide) e))
          refine (sync_l HLgb.out).mono ?_
          rintro e wc ⟨rfl, hLg, hK⟩
          rw [← HSC.out]
          have HBOc : Hid (BothL W wc b3 b9 b12 gd gl (j + 1) a b s gen p.doSync l r2 B1 d1 B2 d2 B cB va vw R) := Lib.hid ⟨hLg, HMT.out.1, HRSb.out.kpl hK, hK.blk HB3b.out (by decide) (by decide) (by decide), by have := HMT.out.2; have := HBOa.out.tot; omega, (DP.doSync_size p).trans HBOa.out.sz, HBOa.out.lz, HBOa.out.rl⟩
          clear hLg hK HLgb HRSb HB3b HBOa
          go_wp2_with fail
          go_meet
          exact ⟨rfl, gl, p.doSync, l, r2, B1, d1, B2, d2, B, cB, va, vw, R, sc, rfl, rfl, rfl, rfl, rfl, HBOc⟩
        have hz3 : decide (q = 3) = false := decide_eq_false h3
        by_cases h4 : q = 4
        · subst h4
          go_wp2_with fail
          refine (cut_l HBO7.out.lg.dkl yA yn yc ys (HBO7.out.lg.nw.rd HXG.out.rd2) HXG.out.n2 (fun k hk => hk)).mono ?_
          rintro e w8 ⟨rfl, hD, hK⟩
          have HD8 := Lib.hid hD
          have HRS8 : Hid (Rest W w8 b9 b12 r A1 c1 A2 c2 l B cB va vw R) := Lib.hid (HBO7.out.rs.kpl hK)
          have HB38 : Hid (Blk w8 b3 78 #[.int .i64 a, .int .i64 b, .int .i64 s]) := Lib.hid (hK.blk HBO7.out.b3 (by decide) (by decide) (by decide))
          have HB168 : Hid (Blk w8 b16 73 #[.int .i64 kd, .int .i64 nm, .slice xA xn xc, .slice yA yn yc]) := Lib.hid (hK.blk HB16.out (by decide) (by decide) (by decide))
          have HMO : Hid (Mt (p.cut ys) (r.cut ys) ∧ p.Ok ∧ (p.cut ys).size = s ∧ (r.cut ys).tot ≤ 100 * (j + 1) ∧ r.tot ≤ 100 * (j + 1) ∧ l.size = b ∧ l.gen = gen) := Lib.hid ⟨HBO7.out.mt.cut HBO7.out.lg.ok _, HBO7.out.lg.ok, HBO7.out.sz, Nat.le_trans (RP.tot_cut _ _) HBO7.out.tot, HBO7.out.tot, HBO7.out.lz.1, HBO7.out.lz.2⟩
          have y3 : w8.cell? ⟨b16, 3, none⟩ = some (.slice yA yn yc) := HB168.out.cell 3
          obtain ⟨RV, hRV⟩ : ∃ RV, RV = RfV r A1 c1 A2 c2 := ⟨_, rfl⟩
          have HRV : Hid (RV = RfV r A1 c1 A2 c2 ∧ RV.size = 5) := Lib.hid (by rw [hRV]; exact ⟨rfl, rfl⟩)
          have HB98 : Hid (Blk w8 b9 32 RV) := Lib.hid (by rw [hRV]; exact HRS8.out.b9)
          clear hD hK hRV HBO7 HB16 x0 x1 x2 x3
          go_wp2_with (first
            | ((with_reducible refine atOp ⟨some 128, .load _ _, _, _, _, _⟩ ?_); refine wpList_load_any rfl _ rfl Tryd.underlying32 rfl (by rw [HRV.out.2]; rfl) rfl HB98.out ?_))
          rw [HRV.out.1]
          refine (rcut_any r A1 c1 A2 c2 yA yn yc ys w8 HRS8.out.rf (HD8.out.nw.rd HXG.out.rd2) (fun k hk => Nat.lt_of_lt_of_le hk HD8.out.nw.size) (by have := HMO.out.2.2.2.2.1; have := HTB.out; omega) HXG.out.n2).mono ?_
          rintro e wa ⟨⟨B1, d1, B2, d2, rfl, hRf⟩, hNa⟩
          rw [← HRV.out.1]
          obtain ⟨r2, hr2⟩ : ∃ r2, r2 = r.cut ys := ⟨_, rfl⟩
          obtain ⟨pq, hpq⟩ : ∃ pq, pq = p.cut ys := ⟨_, rfl⟩
          have HCL : Hid (Clean pq) := Lib.hid (by rw [hpq]; exact Clean.cut HMO.out.2.1 ys)
          rw [← hr2] at hRf HMO ⊢
          rw [← hpq] at HMO HD8
          obtain ⟨RN, hRN⟩ : ∃ RN, RN = RfV r2 B1 d1 B2 d2 := ⟨_, rfl⟩
          have HRN : Hid (RN = RfV r2 B1 d1 B2 d2 ∧ RN.size = 5 ∧ RN.all (·.oneCell') = true) := Lib.hid (by rw [hRN]; exact ⟨rfl, rfl, rf_all _ _ _ _ _⟩)
          rw [← hRN]
          clear hRN
          have HRf := Lib.hid hRf
          have HDa : Hid (Dkl W wa gd pq) := Lib.hid (HD8.out.new hNa)
          have HRSa : Hid (Rest W wa b9 b12 r A1 c1 A2 c2 l B cB va vw R) := Lib.hid (HRS8.out.new hNa)
          have HB3a : Hid (Blk wa b3 78 #[.int .i64 a, .int .i64 b, .int .i64 s]) := Lib.hid (hNa.blk HB38.out)
          have HB9a : Hid (Blk wa b9 32 RV) := Lib.hid (hNa.blk HB98.out)
          clear hr2 hpq hRf hNa HD8 HRS8 HB38 HB168 HB98 y3
          go_upto_region 29 with ((with_reducible refine atOp ⟨none, .store 32 (.tmp 9) _, _, _, _, _⟩ ?_); refine wpList_store_any rfl (.tmp 9) (.tmp 131) rfl (by rw [HRN.out.2.1]; rfl) rfl rfl HB9a.out (by rw [HRV.out.2, HRN.out.2.1]) HRN.out.2.2 ?_; intro wb hb hf; have HB9wb := Lib.hid hb; have HFwb := Lib.hid hf; clear hb hf)
          have HDb : Hid (Dkl W wb gd pq) := Lib.hid (HDa.out.st HB9a.out HFwb.out HLT.out.1 (by decide) (by decide))
          have HRSb : Hid (Rest W wb b9 b12 r2 B1 d1 B2 d2 l B cB va vw R) := Lib.hid (HRSa.out.set9 HRf.out (by rw [← HRN.out.1]; exact HB9wb.out) HFwb.out HLT.out.1)
          have HB3b : Hid (Blk wb b3 78 #[.int .i64 a, .int .i64 b, .int .i64 s]) := Lib.hid (HB3a.out.fr HFwb.out (fun e => Blk.ne_ HB3a.out HB9a.out (by decide) e))
          have t0 : wb.cell? ⟨b3, 0, none⟩ = some (.int .i64 a) := HB3b.out.cell 0
          have t1 : wb.cell? ⟨b3, 1, none⟩ = some (.int .i64 b) := HB3b.out.cell 1
          clear HDa HRSa HB3a HB9a HFwb HRf
          obtain ⟨q2, R2, l2, ho, hcl, hqz, hlz, hlg, hRl, hlok⟩ := opn_good HCL.out HMO.out.2.2.1 HSZ.out.2.2.1 HSZ.out.2.2.2.1 HSZ.out.2.2.2.2.1 HSZ.out.2.2.2.2.2
          have HOPN := Lib.hid ho
          have HQ : Hid (q2.size = s ∧ l2.size = b ∧ l2.gen = gen ∧ R2.length ≤ b + 1 ∧ l2.Ok s) := Lib.hid ⟨hqz, hlz, hlg, hRl, hlok⟩
          clear ho hcl hqz hlz hlg hRl hlok
          go_wp2_with fail
          refine (open_l HDb.out HL.out a b gen HWA.out.1 HWA.out.2 (by have := HSZ.out; omega) HOPN.out (by rw [HQ.out.1, HMO.out.2.2.1])).mono ?_
          rintro e wc ⟨gl2, Aa, ca, rfl, hLg, hRa, hK⟩
          have HLg := Lib.hid hLg
          have HRa : Hid (RecsK W.heap.size wc (.slice Aa R2.length ca) R2) := Lib.hid (hRa.base HDb.out.nw.size).toK
          have HRSc : Hid (Rest W wc b9 b12 r2 B1 d1 B2 d2 l B cB va vw R) := Lib.hid (HRSb.out.kpl hK)
          have HB3c : Hid (Blk wc b3 78 #[.int .i64 a, .int .i64 b, .int .i64 s]) := Lib.hid (hK.blk HB3b.out (by decide) (by decide) (by decide))
          have u0 : wc.cell? ⟨b3, 0, none⟩ = some (.int .i64 a) := HB3c.out.cell 0
          have u1 : wc.cell? ⟨b3, 1, none⟩ = some (.int .i64 b) := HB3c.out.cell 1
          have HB9c : Hid (Blk wc b9 32 RN) := Lib.hid (by rw [HRN.out.1]; exact HRSc.out.b9)
          clear hLg hRa hK HDb HRSb HB3b t0 t1 HB9wb
          go_wp2_with (first
            | ((with_reducible refine atOp ⟨some 144, .load _ _, _, _, _, _⟩ ?_); refine wpList_load_any rfl _ rfl Tryd.underlying32 rfl (by rw [HRN.out.2.1]; rfl) rfl HB9c.out ?_))
          have hro := ropen_good (w := wc) (p := pq) r2 B1 d1 B2 d2 HRSc.out.rf HMO.out.1 HCL.out.ok (by have := HMO.out.2.2.2.1; have := HTB.out; omega) (HR.out.new HLg.out.nw) a b gen HSZ.out.2.2.1 (by rw [HMO.out.2.2.1]; exact HSZ.out.2.2.2.1) HSZ.out.2.2.2.2.1 HSZ.out.2.2.2.2.2
          rw [← HRN.out.1] at hro
          refine (ropen_both hro HOPN.out trivial).mono ?_
          rintro e wd ⟨r3, E1, f1, E2, f2, F, cF, C, cC, rfl, hRf, hM, htt, hRl, hRc, hNd⟩
          obtain ⟨RM, hRM⟩ : ∃ RM, RM = RfV r3 E1 f1 E2 f2 := ⟨_, rfl⟩
          have HRM : Hid (RM = RfV r3 E1 f1 E2 f2 ∧ RM.size = 5 ∧ RM.all (·.oneCell') = true) := Lib.hid (by rw [hRM]; exact ⟨rfl, rfl, rf_all _ _ _ _ _⟩)
          obtain ⟨YL, hYL⟩ : ∃ YL, YL = rlV l2 F cF := ⟨_, rfl⟩
          have HYL : Hid (YL = rlV l2 F cF ∧ YL.size = 6 ∧ YL.all (·.oneCell') = true) := Lib.hid (by rw [hYL]; exact ⟨rfl, rfl, rl_all _ _ _⟩)
          rw [← hRM, ← hYL]
          have HM3 := Lib.hid hM
          have HT3 : Hid (r3.tot ≤ 100 * (j + 1 + 1)) := Lib.hid (by have := HMO.out.2.2.2.1; have := HSZ.out; omega)
          have HRF3 := Lib.hid hRf
          have HRL3 := Lib.hid hRl
          have HRW3 : Hid (RecsK W.heap.size wd (.slice C R2.length cC) R2) := Lib.hid (hRc.base HLg.out.nw.size).toK
          have HB9d : Hid (Blk wd b9 32 RN) := Lib.hid (hNd.blk HB9c.out)
          have HLgd : Hid (Lgl W wd gd gl2 q2 l2) := Lib.hid (HLg.out.new hNd)
          have HRad : Hid (RecsK W.heap.size wd (.slice Aa R2.length ca) R2) := Lib.hid (HRa.out.new hNd)
          have HRSd : Hid (Rest W wd b9 b12 r2 B1 d1 B2 d2 l B cB (.slice Aa R2.length ca) (.slice C R2.length cC) R2) := Lib.hid ((HRSc.out.new hNd).rows HRad.out HRW3.out)
          have HB3d : Hid (Blk wd b3 78 #[.int .i64 a, .int .i64 b, .int .i64 s]) := Lib.hid (hNd.blk HB3c.out)
          have HB12d : Hid (Blk wd b12 45 (rlV l B cB)) := Lib.hid HRSd.out.b12
          clear hRf hM htt hRl hRc hNd hRM hYL hro u0 u1 HLg HRa HRSc HB3c HB9c HRad HRW3
          go_wp2_with (first
            | ((with_reducible refine atOp ⟨none, .store 32 (.tmp 9) _, _, _, _, _⟩ ?_); refine wpList_store_any rfl (.tmp 9) (.tmp 151) rfl (by rw [HRM.out.2.1]; rfl) rfl rfl HB9d.out (by rw [HRN.out.2.1, HRM.out.2.1]) HRM.out.2.2 ?_; intro we hb hf; have HB9we := Lib.hid hb; have HFwe := Lib.hid hf; clear hb hf)
            | ((with_reducible refine atOp ⟨none, .store 45 (.tmp 12) _, _, _, _, _⟩ ?_); refine wpList_store_any (cs := YL) rfl (.tmp 12) (.tmp 152) rfl (by rw [HYL.out.2.1]; rfl) rfl rfl (HB12d.out.fr HFwe.out (fun e => HLT.out.2.2 e)) (by rw [HYL.out.2.1]; rfl) HYL.out.2.2 ?_; intro wf hb hf; have HB12f := Lib.hid hb; have HFf := Lib.hid hf; clear hb hf))
          have HBOf : Hid (BothL W wf b3 b9 b12 gd gl2 (j + 1) a b s gen q2 l2 r3 E1 f1 E2 f2 F cF (.slice Aa R2.length ca) (.slice C R2.length cC) R2) := Lib.hid (by
            have hb12e := HB12d.out.fr HFwe.out (fun e => HLT.out.2.2 e)
            have k9 : Rest W we b9 b12 r3 E1 f1 E2 f2 l B cB (.slice Aa R2.length ca) (.slice C R2.length cC) R2 := HRSd.out.set9 HRF3.out (by rw [← HRM.out.1]; exact HB9we.out) HFwe.out HLT.out.1
            have b3e := HB3d.out.fr HFwe.out (fun e => Blk.ne_ HB3d.out HB9d.out (by decide) e)
            have rl3 : RlIn we l2 F := HRL3.out.fr HFwe.out (fun k hk => by rw [show k = b9 from hk]; exact IsT.not_blk HB9d.out (by decide))
            exact ⟨(HLgd.out.st HB9d.out HFwe.out HLT.out.1 (by decide) (by decide) (by decide)).st hb12e HFf.out HLT.out.2.1 (by decide) (by decide) (by decide), HM3.out, k9.set12 rl3 (by rw [← HYL.out.1]; exact HB12f.out) HFf.out HLT.out.2.1,
              b3e.fr HFf.out (fun e => Blk.ne_ b3e hb12e (by decide) e), HT3.out, HQ.out.1, ⟨HQ.out.2.1, HQ.out.2.2.1⟩, by have := HQ.out.2.2.2.1; have := HSZ.out; omega⟩)
          obtain ⟨rn2, hrn2⟩ : ∃ n, n = R2.length := ⟨_, rfl⟩
          rw [← hrn2] at HBOf
          try rw [← hrn2]
          clear hrn2
          go_wp2_with fail
          go_meet
          exact ⟨rfl, gl2, q2, l2, r3, E1, f1, E2, f2, F, cF, _, _, R2, 0, rfl, rfl, rfl, rfl, rfl, HBOf⟩
        have hz4 : decide (q = 4) = false := decide_eq_false h4
        by_cases h5 : q = 5
        · subst h5
          go_wp2_with fail
          refine (fuse_l HBO7.out.lg nm HXG.out.num).mono ?_
          rintro e w8 ⟨rfl, hLg, hK⟩
          have HLg := Lib.hid hLg
          have HRS8 : Hid (Rest W w8 b9 b12 r A1 c1 A2 c2 l B cB va vw R) := Lib.hid (HBO7.out.rs.kpl hK)
          have HB38 : Hid (Blk w8 b3 78 #[.int .i64 a, .int .i64 b, .int .i64 s]) := Lib.hid (hK.blk HBO7.out.b3 (by decide) (by decide) (by decide))
          have y1 : w8.cell? ⟨b16, 1, none⟩ = some (.int .i64 nm) := (hK.blk HB16.out (by decide) (by decide) (by decide)).cell 1
          have c83 : w8.cell? ⟨b9, 3, none⟩ = some (.int .i64 r.fuse) := by rw [HRS8.out.b9.cell]; rfl
          have f83 := HRS8.out.b9.frozen 3
          have HMF : Hid (Mt (p.fused nm) (r.fused nm) ∧ r.tot ≤ 100 * (j + 1) ∧ p.size = s ∧ l.size = b ∧ l.gen = gen ∧ R.length ≤ 1000) := Lib.hid ⟨HBO7.out.mt.fused nm, HBO7.out.tot, HBO7.out.sz, HBO7.out.lz.1, HBO7.out.lz.2, HBO7.out.rl⟩
          clear hLg hK HBO7 HB16 x0 x1 x2 x3
          go_wp2_with fail
          obtain ⟨ws, hws⟩ : ∃ ws : World, ws = w8.setCell ⟨b9, 3, none⟩ (.int .i64 (max nm (-1))) := ⟨_, rfl⟩
          have hF : Fr (fun y => y = b9) w8 ws := by rw [hws]; exact (Fr.refl (fun y => y = b9) w8).setCell (p := ⟨b9, 3, none⟩) (fun _ => rfl) _
          have HBOs : Hid (BothL W ws b3 b9 b12 gd gl (j + 1) a b s gen (p.fused nm) l (r.fused nm) A1 c1 A2 c2 B cB va vw R) := Lib.hid
            ⟨HLg.out.st HRS8.out.b9 hF HLT.out.1 (by decide) (by decide) (by decide), HMF.out.1, HRS8.out.set9 ⟨HRS8.out.rf.sure, HRS8.out.rf.fresh, HRS8.out.rf.ok⟩ (by rw [hws]; exact HRS8.out.b9.set 3 _) hF HLT.out.1, HB38.out.fr hF (fun e => Blk.ne_ HB38.out HRS8.out.b9 (by decide) e), by have := HMF.out.2.1; show r.tot ≤ _; omega, HMF.out.2.2.1, ⟨HMF.out.2.2.2.1, HMF.out.2.2.2.2.1⟩, HMF.out.2.2.2.2.2⟩
          try rw [← hws]
          clear hws hF y1 c83 f83 HLg HRS8 HB38 HMF
          go_meet
          exact ⟨rfl, gl, p.fused nm, l, r.fused nm, A1, c1, A2, c2, B, cB, va, vw, R, 0, rfl, rfl, rfl, rfl, rfl, HBOs⟩
        have hz5 : decide (q = 5) = false := decide_eq_false h5
        by_cases h6 : q = 6
        · subst h6
          go_wp2_with fail
          refine (cut_l HBO7.out.lg.dkl yA yn yc ys (HBO7.out.lg.nw.rd HXG.out.rd2) HXG.out.n2 (fun k hk => hk)).mono ?_
          rintro e w8 ⟨rfl, hD, hK⟩
          have HD8 := Lib.hid hD
          have HRS8 : Hid (Rest W w8 b9 b12 r A1 c1 A2 c2 l B cB va vw R) := Lib.hid (HBO7.out.rs.kpl hK)
          have HB38 : Hid (Blk w8 b3 78 #[.int .i64 a, .int .i64 b, .int .i64 s]) := Lib.hid (hK.blk HBO7.out.b3 (by decide) (by decide) (by decide))
          have HB168 : Hid (Blk w8 b16 73 #[.int .i64 kd, .int .i64 nm, .slice xA xn xc, .slice yA yn yc]) := Lib.hid (hK.blk HB16.out (by decide) (by decide) (by decide))
          have HRLN : Hid (R.length ≤ 1000) := Lib.hid HBO7.out.rl
          have HMO : Hid (Mt (p.cut ys) (r.cut ys) ∧ p.Ok ∧ (p.cut ys).size = s ∧ (r.cut ys).tot ≤ 100 * (j + 1) ∧ r.tot ≤ 100 * (j + 1) ∧ l.size = b ∧ l.gen = gen) := Lib.hid ⟨HBO7.out.mt.cut HBO7.out.lg.ok _, HBO7.out.lg.ok, HBO7.out.sz, Nat.le_trans (RP.tot_cut _ _) HBO7.out.tot, HBO7.out.tot, HBO7.out.lz.1, HBO7.out.lz.2⟩
          have y3 : w8.cell? ⟨b16, 3, none⟩ = some (.slice yA yn yc) := HB168.out.cell 3
          obtain ⟨RV, hRV⟩ : ∃ RV, RV = RfV r A1 c1 A2 c2 := ⟨_, rfl⟩
          have HRV : Hid (RV = RfV r A1 c1 A2 c2 ∧ RV.size = 5) := Lib.hid (by rw [hRV]; exact ⟨rfl, rfl⟩)
          have HB98 : Hid (Blk w8 b9 32 RV) := Lib.hid (by rw [hRV]; exact HRS8.out.b9)
          clear hD hK hRV HBO7 HB16 x0 x1 x2 x3
          go_wp2_with (first
            | ((with_reducible refine atOp ⟨some 171, .load _ _, _, _, _, _⟩ ?_); refine wpList_load_any rfl _ rfl Tryd.underlying32 rfl (by rw [HRV.out.2]; rfl) rfl HB98.out ?_))
          rw [HRV.out.1]
          refine (rcut_any r A1 c1 A2 c2 yA yn yc ys w8 HRS8.out.rf (HD8.out.nw.rd HXG.out.rd2) (fun k hk => Nat.lt_of_lt_of_le hk HD8.out.nw.size) (by have := HMO.out.2.2.2.2.1; have := HTB.out; omega) HXG.out.n2).mono ?_
          rintro e wa ⟨⟨B1, d1, B2, d2, rfl, hRf⟩, hNa⟩
          rw [← HRV.out.1]
          obtain ⟨r2, hr2⟩ : ∃ r2, r2 = r.cut ys := ⟨_, rfl⟩
          obtain ⟨pq, hpq⟩ : ∃ pq, pq = p.cut ys := ⟨_, rfl⟩
          have HCL : Hid (Clean pq) := Lib.hid (by rw [hpq]; exact Clean.cut HMO.out.2.1 ys)
          rw [← hr2] at hRf HMO ⊢
          rw [← hpq] at HMO HD8
          obtain ⟨RN, hRN⟩ : ∃ RN, RN = RfV r2 B1 d1 B2 d2 := ⟨_, rfl⟩
          have HRN : Hid (RN = RfV r2 B1 d1 B2 d2 ∧ RN.size = 5 ∧ RN.all (·.oneCell') = true) := Lib.hid (by rw [hRN]; exact ⟨rfl, rfl, rf_all _ _ _ _ _⟩)
          rw [← hRN]
          clear hRN
          have HRf := Lib.hid hRf
          have HDa : Hid (Dkl W wa gd pq) := Lib.hid (HD8.out.new hNa)
          have HRSa : Hid (Rest W wa b9 b12 r A1 c1 A2 c2 l B cB va vw R) := Lib.hid (HRS8.out.new hNa)
          have HB3a : Hid (Blk wa b3 78 #[.int .i64 a, .int .i64 b, .int .i64 s]) := Lib.hid (hNa.blk HB38.out)
          have HB9a : Hid (Blk wa b9 32 RV) := Lib.hid (hNa.blk HB98.out)
          clear hr2 hpq hRf hNa HD8 HRS8 HB38 HB168 HB98 y3
          go_upto_region 37 with ((with_reducible refine atOp ⟨none, .store 32 (.tmp 9) _, _, _, _, _⟩ ?_); refine wpList_store_any rfl (.tmp 9) (.tmp 174) rfl (by rw [HRN.out.2.1]; rfl) rfl rfl HB9a.out (by rw [HRV.out.2, HRN.out.2.1]) HRN.out.2.2 ?_; intro wb hb hf; have HB9wb := Lib.hid hb; have HFwb := Lib.hid hf; clear hb hf)
          have HDb : Hid (Dkl W wb gd pq) := Lib.hid (HDa.out.st HB9a.out HFwb.out HLT.out.1 (by decide) (by decide))
          have HRSb : Hid (Rest W wb b9 b12 r2 B1 d1 B2 d2 l B cB va vw R) := Lib.hid (HRSa.out.set9 HRf.out (by rw [← HRN.out.1]; exact HB9wb.out) HFwb.out HLT.out.1)
          have HB3b : Hid (Blk wb b3 78 #[.int .i64 a, .int .i64 b, .int .i64 s]) := Lib.hid (HB3a.out.fr HFwb.out (fun e => Blk.ne_ HB3a.out HB9a.out (by decide) e))
          have t0 : wb.cell? ⟨b3, 0, none⟩ = some (.int .i64 a) := HB3b.out.cell 0
          have t1 : wb.cell? ⟨b3, 1, none⟩ = some (.int .i64 b) := HB3b.out.cell 1
          clear HDa HRSa HB3a HB9a HFwb HRf
          obtain ⟨hw0, hcl2, hqz⟩ := fresh_clean HCL.out (a := a) (b := b) (c := gen) HSZ.out.2.2.1 (by rw [HMO.out.2.2.1]; exact HSZ.out.2.2.2.1) HSZ.out.2.2.2.2.2
          have HW0 := Lib.hid hw0
          have HQZ : Hid ((wipeL pq (lg0 a b gen)).1.size = s) := Lib.hid (hqz.trans HMO.out.2.2.1)
          clear hw0 hcl2 hqz
          go_wp2_with fail
          refine (fresh_l HDb.out a b gen HSZ.out.2.2.1 (by rw [HMO.out.2.2.1]; exact HSZ.out.2.2.2.1) HSZ.out.2.2.2.2.1 HSZ.out.2.2.2.2.2 HW0.out).mono ?_
          rintro e wc ⟨gl2, rfl, hLg, hK⟩
          have HLg := Lib.hid hLg
          have HRSc : Hid (Rest W wc b9 b12 r2 B1 d1 B2 d2 l B cB va vw R) := Lib.hid (HRSb.out.kpl hK)
          have HB3c : Hid (Blk wc b3 78 #[.int .i64 a, .int .i64 b, .int .i64 s]) := Lib.hid (hK.blk HB3b.out (by decide) (by decide) (by decide))
          have u0 : wc.cell? ⟨b3, 0, none⟩ = some (.int .i64 a) := HB3c.out.cell 0
          have u1 : wc.cell? ⟨b3, 1, none⟩ = some (.int .i64 b) := HB3c.out.cell 1
          have HB9c : Hid (Blk wc b9 32 RN) := Lib.hid (by rw [HRN.out.1]; exact HRSc.out.b9)
          clear hLg hK HDb HRSb HB3b t0 t1 HB9wb
          go_wp2_with (first
            | ((with_reducible refine atOp ⟨some 186, .load _ _, _, _, _, _⟩ ?_); refine wpList_load_any rfl _ rfl Tryd.underlying32 rfl (by rw [HRN.out.2.1]; rfl) rfl HB9c.out ?_))
          have hro := rfresh_good (w := wc) (p := pq) r2 B1 d1 B2 d2 HRSc.out.rf HMO.out.1 HCL.out.ok (by have := HMO.out.2.2.2.1; have := HTB.out; omega) a b gen HSZ.out.2.2.1 (by rw [HMO.out.2.2.1]; exact HSZ.out.2.2.2.1) HSZ.out.2.2.2.2.1 HSZ.out.2.2.2.2.2 HW0.out
          rw [← HRN.out.1] at hro
          refine hro.mono ?_
          rintro e wd ⟨r3, E1, f1, E2, f2, F, cF, rfl, hRf, hM, htt, hRl, hNd⟩
          obtain ⟨q2, hq2⟩ : ∃ q2, q2 = (wipeL pq (lg0 a b gen)).1 := ⟨_, rfl⟩
          rw [← hq2] at hM HQZ HLg
          obtain ⟨l2, hl2⟩ : ∃ l2, l2 = lg0 a b gen := ⟨_, rfl⟩
          have HL2 : Hid (l2.size = b ∧ l2.gen = gen) := Lib.hid (by rw [hl2]; exact ⟨rfl, rfl⟩)
          rw [← hl2] at hRl HLg ⊢
          obtain ⟨RM, hRM⟩ : ∃ RM, RM = RfV r3 E1 f1 E2 f2 := ⟨_, rfl⟩
          have HRM : Hid (RM = RfV r3 E1 f1 E2 f2 ∧ RM.size = 5 ∧ RM.all (·.oneCell') = true) := Lib.hid (by rw [hRM]; exact ⟨rfl, rfl, rf_all _ _ _ _ _⟩)
          obtain ⟨YL, hYL⟩ : ∃ YL, YL = rlV l2 F cF := ⟨_, rfl⟩
          have HYL : Hid (YL = rlV l2 F cF ∧ YL.size = 6 ∧ YL.all (·.oneCell') = true) := Lib.hid (by rw [hYL]; exact ⟨rfl, rfl, rl_all _ _ _⟩)
          rw [← hRM, ← hYL]
          have HM3 := Lib.hid hM
          have HT3 : Hid (r3.tot ≤ 100 * (j + 1 + 1)) := Lib.hid (by have := HMO.out.2.2.2.1; have := HSZ.out; omega)
          have HRF3 := Lib.hid hRf
          have HRL3 := Lib.hid hRl
          have HB9d : Hid (Blk wd b9 32 RN) := Lib.hid (hNd.blk HB9c.out)
          have HLgd : Hid (Lgl W wd gd gl2 q2 l2) := Lib.hid (HLg.out.new hNd)
          have HRSd : Hid (Rest W wd b9 b12 r2 B1 d1 B2 d2 l B cB va vw R) := Lib.hid (HRSc.out.new hNd)
          have HB3d : Hid (Blk wd b3 78 #[.int .i64 a, .int .i64 b, .int .i64 s]) := Lib.hid (hNd.blk HB3c.out)
          have HB12d : Hid (Blk wd b12 45 (rlV l B cB)) := Lib.hid HRSd.out.b12
          clear hRf hM htt hRl hNd hRM hYL hro u0 u1 HLg HRSc HB3c HB9c hq2 hl2 HW0
          go_wp2_with (first
            | ((with_reducible refine atOp ⟨none, .store 32 (.tmp 9) _, _, _, _, _⟩ ?_); refine wpList_store_any rfl (.tmp 9) (.tmp 193) rfl (by rw [HRM.out.2.1]; rfl) rfl rfl HB9d.out (by rw [HRN.out.2.1, HRM.out.2.1]) HRM.out.2.2 ?_; intro we hb hf; have HB9we := Lib.hid hb; have HFwe := Lib.hid hf; clear hb hf)
            | ((with_reducible refine atOp ⟨none, .store 45 (.tmp 12) _, _, _, _, _⟩ ?_); refine wpList_store_any (cs := YL) rfl (.tmp 12) (.tmp 194) rfl (by rw [HYL.out.2.1]; rfl) rfl rfl (HB12d.out.fr HFwe.out (fun e => HLT.out.2.2 e)) (by rw [HYL.out.2.1]; rfl) HYL.out.2.2 ?_; intro wf hb hf; have HB12f := Lib.hid hb; have HFf := Lib.hid hf; clear hb hf))
          have HBOf : Hid (BothL W wf b3 b9 b12 gd gl2 (j + 1) a b s gen q2 l2 r3 E1 f1 E2 f2 F cF va vw R) := Lib.hid (by
            have hb12e := HB12d.out.fr HFwe.out (fun e => HLT.out.2.2 e)
            have k9 : Rest W we b9 b12 r3 E1 f1 E2 f2 l B cB va vw R := HRSd.out.set9 HRF3.out (by rw [← HRM.out.1]; exact HB9we.out) HFwe.out HLT.out.1
            have b3e := HB3d.out.fr HFwe.out (fun e => Blk.ne_ HB3d.out HB9d.out (by decide) e)
            have rl3 : RlIn we l2 F := HRL3.out.fr HFwe.out (fun k hk => by rw [show k = b9 from hk]; exact IsT.not_blk HB9d.out (by decide))
            exact ⟨(HLgd.out.st HB9d.out HFwe.out HLT.out.1 (by decide) (by decide) (by decide)).st hb12e HFf.out HLT.out.2.1 (by decide) (by decide) (by decide), HM3.out, k9.set12 rl3 (by rw [← HYL.out.1]; exact HB12f.out) HFf.out HLT.out.2.1,
              b3e.fr HFf.out (fun e => Blk.ne_ b3e hb12e (by decide) e), HT3.out, HQZ.out, HL2.out, HRLN.out⟩)
          go_wp2_with fail
          go_meet
          exact ⟨rfl, gl2, q2, l2, r3, E1, f1, E2, f2, F, cF, va, vw, R, 0, rfl, rfl, rfl, rfl, rfl, HBOf⟩
        have hz6 : decide (q = 6) = false := decide_eq_false h6
        obtain ⟨RV, hRV⟩ : ∃ RV, RV = RfV r A1 c1 A2 c2 := ⟨_, rfl⟩
        have HRV : Hid (RV = RfV r A1 c1 A2 c2 ∧ RV.size = 5) := Lib.hid (by rw [hRV]; exact ⟨rfl, rfl⟩)
        have HB97 : Hid (Blk w7 b9 32 RV) := Lib.hid (by rw [hRV]; exact HBO7.out.rs.b9)
        clear hRV
        obtain ⟨YB, hYB⟩ : ∃ YB, YB = rlV l B cB := ⟨_, rfl⟩
        have HYB : Hid (YB = rlV l B cB ∧ YB.size = 6) := Lib.hid (by rw [hYB]; exact ⟨rfl, rfl⟩)
        have HB127 : Hid (Blk w7 b12 45 YB) := Lib.hid (by rw [hYB]; exact HBO7.out.rs.b12)
        clear hYB
        go_wp2_with (first
          | ((with_reducible refine atOp ⟨some 101, .load _ _, _, _, _, _⟩ ?_); refine wpList_load_any rfl _ rfl Tryd.underlying32 rfl (by rw [HRV.out.2]; rfl) rfl HB97.out ?_)
          | ((with_reducible refine atOp ⟨some 102, .load _ _, _, _, _, _⟩ ?_); refine wpList_load_any rfl _ rfl Tryd.underlying45 rfl (by rw [HYB.out.2]; rfl) rfl HB127.out ?_))
        rw [HRV.out.1, HYB.out.1]
        refine (rapp_any r A1 c1 A2 c2 B cB xA xn xc xs HBO7.out.rs.rf HBO7.out.mt HBO7.out.lg.ok HBO7.out.rs.rl HBO7.out.lg.lok (HR.out.new HBO7.out.lg.nw) (HBO7.out.lg.nw.rd HXG.out.rd) HXG.out.byt (by have := HXG.out.nn; unfold maxLen; dsimp only at this; omega) (by have := HBO7.out.tot; have := HTB.out; omega)).mono ?_
        rintro e wa ⟨r2, B1, d1, B2, d2, F, cF, rfl, hRf, hM, htt, hRl, hNa⟩
        rw [← HRV.out.1, ← HYB.out.1]
        have hsame := appL_same p l xs
        have hpz := appL_size p l xs
        obtain ⟨ap, hap⟩ : ∃ ap, ap = appL p l xs := ⟨_, rfl⟩
        have HAP := Lib.hid hap
        rw [← hap] at hM hRl hsame hpz ⊢
        obtain ⟨p2, l2, ec⟩ := ap
        dsimp only at hM hRl hsame hpz ⊢
        obtain ⟨RN, hRN⟩ : ∃ RN, RN = RfV r2 B1 d1 B2 d2 := ⟨_, rfl⟩
        have HRN : Hid (RN = RfV r2 B1 d1 B2 d2 ∧ RN.size = 5 ∧ RN.all (·.oneCell') = true) := Lib.hid (by rw [hRN]; exact ⟨rfl, rfl, rf_all _ _ _ _ _⟩)
        rw [← hRN]
        clear hRN
        obtain ⟨YL, hYL⟩ : ∃ YL, YL = rlV l2 F cF := ⟨_, rfl⟩
        have HYL : Hid (YL = rlV l2 F cF ∧ YL.size = 6 ∧ YL.all (·.oneCell') = true) := Lib.hid (by rw [hYL]; exact ⟨rfl, rfl, rl_all _ _ _⟩)
        rw [← hYL]
        have HRf := Lib.hid hRf
        have HRl := Lib.hid hRl
        have HM2 : Hid (Mt p2 r2 ∧ r2.tot ≤ 100 * (j + 1 + 1) ∧ p2.size = s ∧ l2.size = b ∧ l2.gen = gen) := Lib.hid ⟨hM, by have h1 := HBO7.out.tot; have h2 := HBO7.out.lz.1; have h3 := HSZ.out; rw [h2] at htt; omega, hpz.trans HBO7.out.sz, hsame.1.trans HBO7.out.lz.1, hsame.2.trans HBO7.out.lz.2⟩
        have HBOa : Hid (BothL W wa b3 b9 b12 gd gl j a b s gen p l r A1 c1 A2 c2 B cB va vw R) := Lib.hid (HBO7.out.new hNa)
        have HB9a : Hid (Blk wa b9 32 RV) := Lib.hid (hNa.blk HB97.out)
        have HB12a : Hid (Blk wa b12 45 YB) := Lib.hid (hNa.blk HB127.out)
        have HB16a : Hid (Blk wa b16 73 #[.int .i64 kd, .int .i64 nm, .slice xA xn xc, .slice yA yn yc]) := Lib.hid (hNa.blk HB16.out)
        clear hap hRf hM htt hRl hsame hpz hNa hYL HBO7 HB16 x0 x1 x2 x3 HB97 HB127
        go_upto_region 22 with (first
          | ((with_reducible refine atOp ⟨none, .store 32 (.tmp 9) _, _, _, _, _⟩ ?_); refine wpList_store_any rfl (.tmp 9) (.tmp 106) rfl (by rw [HRN.out.2.1]; rfl) rfl rfl HB9a.out (by rw [HRV.out.2, HRN.out.2.1]) HRN.out.2.2 ?_; intro wb hb hf; have HB9wb := Lib.hid hb; have HFwb := Lib.hid hf; clear hb hf)
          | ((with_reducible refine atOp ⟨none, .store 45 (.tmp 12) _, _, _, _, _⟩ ?_); refine wpList_store_any (cs := YL) rfl (.tmp 12) (.tmp 107) rfl (by rw [HYL.out.2.1]; rfl) rfl rfl (HB12a.out.fr HFwb.out (fun e => HLT.out.2.2 e)) (by rw [HYL.out.2.1, HYB.out.2]) HYL.out.2.2 ?_; intro wc hb hf; have HB12c := Lib.hid hb; have HFc := Lib.hid hf; clear hb hf))
        have HB12b : Hid (Blk wb b12 45 YB) := Lib.hid (HB12a.out.fr HFwb.out (fun e => HLT.out.2.2 e))
        have HLgc : Hid (Lgl W wc gd gl p l) := Lib.hid ((HBOa.out.lg.st HB9a.out HFwb.out HLT.out.1 (by decide) (by decide) (by decide)).st HB12b.out HFc.out HLT.out.2.1 (by decide) (by decide) (by decide))
        have HRSc : Hid (Rest W wc b9 b12 r2 B1 d1 B2 d2 l2 F cF va vw R) := Lib.hid (by
          have k9 : Rest W wb b9 b12 r2 B1 d1 B2 d2 l B cB va vw R := HBOa.out.rs.set9 HRf.out (by rw [← HRN.out.1]; exact HB9wb.out) HFwb.out HLT.out.1
          exact k9.set12 (HRl.out.fr HFwb.out (fun k hk => by rw [show k = b9 from hk]; exact IsT.not_blk HB9a.out (by decide))) (by rw [← HYL.out.1]; exact HB12c.out) HFc.out HLT.out.2.1)
        have HB3c : Hid (Blk wc b3 78 #[.int .i64 a, .int .i64 b, .int .i64 s]) := Lib.hid (by
          have b3e := HBOa.out.b3.fr HFwb.out (fun e => Blk.ne_ HBOa.out.b3 HB9a.out (by decide) e)
          exact b3e.fr HFc.out (fun e => Blk.ne_ b3e HB12b.out (by decide) e))
        have z2 : wc.cell? ⟨b16, 2, none⟩ = some (.slice xA xn xc) := by
          have b16e := HB16a.out.fr HFwb.out (fun e => Blk.ne_ HB16a.out HB9a.out (by decide) e)
          exact (b16e.fr HFc.out (fun e => Blk.ne_ b16e HB12b.out (by decide) e)).cell 2
        have HRLN : Hid (R.length ≤ 1000) := Lib.hid HBOa.out.rl
        clear HBOa HB9a HB12a HB16a HFwb HFc HB9wb HB12c HB12b HRf HRl
        go_wp2_with fail
        refine (app_l HLgc.out HL.out xA xn xc xs (HLgc.out.nw.rd HXG.out.rd) HXG.out.byt (by have := HXG.out.nn; unfold maxLen; dsimp only at this; omega)).mono ?_
        rintro e wd ⟨rfl, hLg, hK⟩
        rw [← HAP.out] at hLg ⊢
        dsimp only at hLg ⊢
        have HBOd : Hid (BothL W wd b3 b9 b12 gd gl (j + 1) a b s gen p2 l2 r2 B1 d1 B2 d2 F cF va vw R) := Lib.hid ⟨hLg, HM2.out.1, HRSc.out.kpl hK, hK.blk HB3c.out (by decide) (by decide) (by decide), HM2.out.2.1, HM2.out.2.2.1, HM2.out.2.2.2, HRLN.out⟩
        clear hLg hK HLgc HRSc HB3c z2 HM2 HAP
        go_wp2_with fail
        go_meet
        exact ⟨rfl, gl, p2, l2, r2, B1, d1, B2, d2, F, cF, va, vw, R, ec, rfl, rfl, rfl, rfl, rfl, HBOd⟩
      case rest =>
        clear HBO7 HB16
        obtain ⟨rfl, gl, p, l, r, A1, c1, A2, c2, B, cB, va, vw, R, bad, rfl, rfl, rfl, rfl, rfl, HBO⟩ := hcut
        obtain ⟨w9, hw9⟩ : ∃ w9, w9 = wc := ⟨_, rfl⟩
        rw [← hw9] at HBO
        rw [← hw9]
        clear hw9
        obtain ⟨tg, htg⟩ : ∃ tg, tg = l.tag := ⟨_, rfl⟩
        have HTG : Hid (tg = l.tag ∧ tg.length = 16 ∧ Byt tg) := Lib.hid ⟨htg, by rw [htg]; exact HBO.out.lg.lok.len, by rw [htg]; exact HBO.out.lg.lok.byt⟩
        have HTA := Lib.hid (tag_any HBO.out.lg.lg)
        rw [← htg] at HTA
        obtain ⟨SA, hSA⟩ : ∃ SA, SA = secA tg := ⟨_, rfl⟩
        have HSA : Hid (SA = secA tg ∧ SA.size = 16 ∧ SA.all (·.oneCell') = true) := Lib.hid (by rw [hSA]; exact ⟨rfl, by rw [secA_size, HTG.out.2.1], secA_one _⟩)
        rw [← hSA] at HTA
        clear htg hSA
        go_upto_region 39 with fail
        go_wp2_with fail
        refine HTA.out.mono ?_
        rintro e wt ⟨rfl, hNt⟩
        have HNt := Lib.hid hNt
        clear hNt HTA
        go_upto_region 40 with ((with_reducible refine atOp ⟨some 19, .alloc _, _, _, _, _⟩ ?_); refine wpList_newrow rfl rfl rfl _ _ rfl tagInfo (by rfl) rfl rfl HSA.out.2.1 HSA.out.2.2 ?_)
        obtain ⟨wu, hwu⟩ : ∃ wu : World, wu = wt.alloc (.cells SA 65) := ⟨_, rfl⟩
        obtain ⟨b19, hb19⟩ : ∃ b19, b19 = wt.heap.size := ⟨_, rfl⟩
        have HNu : Hid (New w9 wu) := Lib.hid (HNt.out.tr (by rw [hwu]; exact New.al (New.refl _) _))
        have HB19 : Hid (Blk wu b19 65 SA) := Lib.hid (by rw [hwu, hb19]; exact Blk.new _ _ _)
        rw [← hwu, ← hb19]
        clear hwu hb19 HNt
        have HBOu : Hid (BothL W wu b3 b9 b12 gd gl (j + 1) a b s gen p l r A1 c1 A2 c2 B cB va vw R) := Lib.hid (HBO.out.new HNu.out)
        clear HBO
        obtain ⟨Aa, ca, hva, -, -⟩ := HBOu.out.rs.ra.shape
        obtain ⟨Aw, cw, hvw, -, -⟩ := HBOu.out.rs.rw_.shape
        subst hva hvw
        obtain ⟨rn, hrn⟩ : ∃ rn, rn = R.length := ⟨_, rfl⟩
        have HRN0 := Lib.hid hrn
        rw [← hrn] at HBOu
        rw [← hrn]
        obtain ⟨us, hus⟩ : ∃ us, us = l.used := ⟨_, rfl⟩
        have HUS := Lib.hid hus
        have q2 : ∀ p' : HW (New wu), p'.w.cell? ⟨b12, 2, none⟩ = some (.int .i64 us) := fun p' => by rw [(p'.h.blk HBOu.out.rs.b12).cell, hus]; rfl
        have q4 : ∀ p' : HW (New wu), p'.w.cell? ⟨b12, 4, none⟩ = some (.slice B 16 cB) := fun p' => by rw [(p'.h.blk HBOu.out.rs.b12).cell]; rfl
        clear hrn hus
        refine wp_region_mixH (New wu) [(true, 0), (true, 2), (false, 1), (true, 3), (true, 4), (true, 5), (true, 6), (false, 7), (true, 8), (true, 9), (true, 10), (true, 11), (true, 13), (true, 14), (false, 12), (true, 15), (true, 16), (true, 17), (true, 18), (true, 19), (true, 20), (false, 21), (true, 22), (true, 23)] (by kernel_rfl) (by kernel_rfl) (New.dr (New.refl wu)) (fun hne => ?_)
        iterate 2 (refine mix_take (o := ⟨_, _, _, _, _, _⟩) rfl (fun K hK => ?_); go_simp; refine hK _ ?_; clear hK K)
        refine mix_act (o := ⟨_, _, _, _, _, _⟩) rfl (fun K hK => ?_) (.inl rfl)
        go_simp
        refine (num_errD bad wu.drew).mono ?_
        rintro e wv ⟨rfl, hwv⟩
        have HNv : Hid (New wu wv) := Lib.hid (by rw [← hwv]; exact New.dr (New.refl wu))
        clear hwv
        go_simp
        refine hK.out _ _ (fun _ => HNv.out) ?_
        clear hK K
        iterate 4 (refine mix_take (o := ⟨_, _, _, _, _, _⟩) rfl (fun K hK => ?_); go_simp; refine hK _ ?_; clear hK K)
        refine mix_act (o := ⟨_, _, _, _, _, _⟩) rfl (fun K hK => ?_) (.inl rfl)
        go_simp
        have hrw := rows_any0 (w := wv) ca cw ((HBOu.out.rs.ra.new HNv.out).row0 HRN0.out) ((HBOu.out.rs.rw_.new HNv.out).row0 HRN0.out) HRN0.out HRN0.out (by rw [HRN0.out]; have := HBOu.out.rl; omega) (by rw [HRN0.out]; have := HBOu.out.rl; omega)
        rw [show decide (R = R) = true from by simp] at hrw
        refine hrw.mono ?_
        rintro e wx ⟨rfl, hNx⟩
        have HNx : Hid (New wu wx) := Lib.hid (HNv.out.tr hNx)
        clear hrw hNx
        go_simp
        refine hK.out _ _ (fun _ => HNx.out) ?_
        clear hK K
        iterate 6 (refine mix_take (o := ⟨_, _, _, _, _, _⟩) rfl (fun K hK => ?_); go_simp; refine hK _ ?_; clear hK K)
        refine mix_act (o := ⟨_, _, _, _, _, _⟩) rfl (fun K hK => ?_) (.inl rfl)
        go_simp
        refine (used_any (HBOu.out.lg.new HNx.out).lgo).mono ?_
        rintro e wy ⟨rfl, rfl⟩
        rw [show usedOf (some l) = us from HUS.out.symm]
        go_simp
        refine hK.out _ _ (fun _ => HNx.out) ?_
        clear hK K
        iterate 6 (refine mix_take (o := ⟨_, _, _, _, _, _⟩) rfl (fun K hK => ?_); go_simp; refine hK _ ?_; clear hK K)
        refine mix_act (o := ⟨_, _, _, _, _, _⟩) rfl (fun K hK => ?_) (.inl rfl)
        go_simp
        have hby := bytes_any (some ⟨b19, 0, none⟩) B 16 16 16 cB tg tg wx (blk_rd0 (by rw [← HSA.out.1]; exact HNx.out.blk HB19.out) HTG.out.2.1) (by rw [HTG.out.1]; exact (HBOu.out.rs.rl.new HNx.out).tag) HTG.out.2.2 HTG.out.2.2
        rw [show decide (tg = tg) = true from by simp] at hby
        refine hby.mono ?_
        rintro e wy ⟨rfl, rfl⟩
        clear hby
        go_simp
        refine hK.out _ _ (fun _ => HNx.out) ?_
        clear hK K
        iterate 2 (refine mix_take (o := ⟨_, _, _, _, _, _⟩) rfl (fun K hK => ?_); go_simp; refine hK _ ?_; clear hK K)
        refine mix_done ?_
        have HBOx : Hid (BothL W wx b3 b9 b12 gd gl (j + 1) a b s gen p l r A1 c1 A2 c2 B cB (.slice Aa rn ca) (.slice Aw rn cw) R) := Lib.hid (HBOu.out.new HNx.out)
        clear q2 q4 hne HBOu HNu HNx HNv HB19
        go_wp2_with fail
        go_roundw
        case rel => exact ⟨j + 1, gl, p, l, r, A1, c1, A2, c2, B, cB, _, _, R, Lib.hid (by have := HJ2.out; omega), by go_num, rfl, rfl, rfl, HBOx⟩
        case measure => simp [intOf]; have := HJ2.out; omega
    · have hge : ¬ ((j : Int) < (m : Int)) := by omega
      clear hj
      go_upto_region 43 with fail
      have v1 : ∀ p' : HW (New wr), p'.w.cell? ⟨b3, 1, none⟩ = some (.int .i64 b) := fun p' => (p'.h.blk HBO.out.b3).cell 1
      have HSI : Hid (∀ w, New wr w → Calls Tryd.prog 26 #[.pointer (some ⟨gl, 0, none⟩)] w fun e w' => e = .returned (.int .i64 b) ∧ w = w') := Lib.hid fun w hN => by have h := size_any (HBO.out.lg.new hN).lg; rw [HBO.out.lz.1] at h; exact h
      have HGE : Hid (∀ w, New wr w → Calls Tryd.prog 27 #[.pointer (some ⟨gl, 0, none⟩)] w fun e w' => e = .returned (.int .u32 gen) ∧ w = w') := Lib.hid fun w hN => by have h := gen_any (HBO.out.lg.new hN).lg; rw [HBO.out.lz.2] at h; exact h
      refine wp_region_mixH (New wr) [(true, 0), (true, 2), (true, 3), (false, 1), (true, 4), (true, 5), (true, 6), (true, 8), (false, 7), (true, 9), (true, 10), (true, 11)] (by kernel_rfl) (by kernel_rfl) (New.dr (New.refl wr)) (fun hne => ?_)
      iterate 3 (refine mix_take (o := ⟨_, _, _, _, _, _⟩) rfl (fun K hK => ?_); go_simp; refine hK _ ?_; clear hK K)
      refine mix_act (o := ⟨_, _, _, _, _, _⟩) rfl (fun K hK => ?_) (.inl rfl)
      go_simp
      refine (HSI.out wr.drew (New.dr (New.refl wr))).mono ?_
      rintro e wz0 ⟨rfl, hwz0⟩
      have HNz0 : Hid (New wr wz0) := Lib.hid (by rw [← hwz0]; exact New.dr (New.refl wr))
      clear hwz0
      go_simp
      refine hK.out _ _ (fun _ => HNz0.out) ?_
      clear hK K
      iterate 4 (refine mix_take (o := ⟨_, _, _, _, _, _⟩) rfl (fun K hK => ?_); go_simp; refine hK _ ?_; clear hK K)
      refine mix_act (o := ⟨_, _, _, _, _, _⟩) rfl (fun K hK => ?_) (.inl rfl)
      go_simp
      refine (HGE.out wz0 HNz0.out).mono ?_
      rintro e wz1 ⟨rfl, hwz1⟩
      have HNz1 : Hid (New wr wz1) := Lib.hid (by rw [← hwz1]; exact HNz0.out)
      clear hwz1
      go_simp
      refine hK.out _ _ (fun _ => HNz1.out) ?_
      clear hK K
      iterate 3 (refine mix_take (o := ⟨_, _, _, _, _, _⟩) rfl (fun K hK => ?_); go_simp; refine hK _ ?_; clear hK K)
      refine mix_done ?_
      go_wp2_with fail
      go_ret
      exact ⟨rfl, HBO.out.lg.nw.tr HNz1.out⟩
theorem plays_law {v0 v2 : Value} {W : World} (o0 : ∃ a b c : Int, v0 = .agg #[.int .i64 a, .int .i64 b, .int .i64 c] ∧ (Lit.int .i64 a).wf = true ∧ (Lit.int .i64 b).wf = true ∧ (Lit.int .i64 c).wf = true) (gen : Int) (wg : (Lit.int .u32 gen).wf = true) (o2 : ∃ (A : Option Addr) (n c : Nat) (L : List AK), v2 = .slice A n c ∧ n ≤ maxLen ∧ L.length = n ∧ Rd (fun b => b < W.heap.size) W 4 A n (L.flatMap AK.cells) ∧ ∀ a ∈ L, a.Good W)
    (hL : laidMetH Tryd.prog [("entrust/entrustref02.Constants", Rows.laid_entrust_entrustref02_Constants), ("entrust/entrustref02.Initials", Rows.laid_entrust_entrustref02_Initials), ("entrust/sha.constants", Rows.laid_entrust_sha_constants), ("entrust/sha.initials", Rows.laid_entrust_sha_initials)] W) :
    Calls Tryd.prog 6 #[v0, .int .u32 gen, v2] W fun e w' => e = .returned (.bool true) ∧ Below W.heap.size W w' := by
  obtain ⟨a, b, s, rfl, wa, wb, ws⟩ := o0
  obtain ⟨A, m, c, L, rfl, hm, hl, hS, hg⟩ := o2
  have hgb := bounds_u32 wg
  by_cases h1 : 1 ≤ s ∧ s ≤ 100
  · obtain ⟨n, rfl⟩ : ∃ n : Nat, s = (n : Int) := ⟨s.toNat, by omega⟩
    by_cases h2 : GoodAt a b gen n
    · obtain ⟨x, y, z, rfl, rfl, rfl, k1, k2, k3, -, -, -⟩ := goodAt_nat h2 (by omega)
      exact plays_main x y n z A m c L W (sha_both hL).2 (sha_both hL).1 hm hS hl hg (by omega) (by omega) k1 k2 (by omega) k3
    · exact plays_bad a b n gen wa wb (by omega) A m c L W (sha_both hL).2 (sha_both hL).1 hm hS hl hg (by omega) (by omega) h2
  · exact plays_none a b s gen A m c L W hm hS hl hg h1
end Go.Proofs.YteeclfejgpgooaaDoor
