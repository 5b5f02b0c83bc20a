/- The reference's net in memory; its lists. No condition but that they can be read. -/
import Derived.Test.YtajoahhjgloefaaTrJ
import Derived.Test.YtajoahhjgloefaaRow
namespace Go.Proofs.Ytajoahhjgloefaa
open Go.RowKit Go.Maps

/-- A list of frames that can be read. -/
structure RsIn (P : Nat → Prop) (W : World) (v : Value) (L : List Fm) : Prop where
  sl : ∃ A c, v = .slice A L.length c ∧ L.length ≤ c ∧ Rd P W 1 A L.length (vals L)
  el : ∀ x ∈ L, Rd P W 1 x.A x.n (u8s x.xs) ∧ Byt x.xs ∧ x.n ≤ 1000
/-- The reference's lane. -/
structure Rl where
  A : Option Addr
  n : Nat
  c : Nat
  F : List Fm
  B : Option Addr
  m : Nat
  d : Nat
  T : List Fm
structure RlIn (P : Nat → Prop) (W : World) (N : Nat) (r : Rl) : Prop where
  f : RsIn P W (.slice r.A r.n r.c) r.F
  t : RsIn P W (.slice r.B r.m r.d) r.T
  fl : r.F.length ≤ 256
  tl : r.T.length ≤ N
def Rl.cells (r : Rl) : Array Value := #[.slice r.A r.n r.c, .slice r.B r.m r.d]
def Rl.val (r : Rl) : Value := .agg r.cells
def rnc (p : Int) (a b : Rl) : Array Value := #[.int .i64 p, .slice a.A a.n a.c, .slice a.B a.m a.d, .slice b.A b.n b.c, .slice b.B b.m b.d]
def rnv (p : Int) (a b : Rl) : Value := .agg (rnc p a b)
def rsel (i : Bool) (a b : Rl) : Rl := match i with | false => a | true => b
def rput1 (i : Bool) (a x : Rl) : Rl := match i with | false => x | true => a
def rput2 (i : Bool) (b x : Rl) : Rl := match i with | false => b | true => x
theorem results_row1 {fn : Func} {p : Tmp} {ty : TypeId} {P : Program} (h : fn.results = #[.cell p ty]) (tmps : Array Value) (w : World) (g : Nat) (cs : Array Value) (d : TypeDesc)
    (hp : tmps.getD p undef = .pointer (some ⟨g, 0, none⟩)) (hg : Blk w g ty cs) (hu : P.underlying ty = some d) (hd : d.isRow = true) (hi : (P.info? ty).map (·.size) = some cs.size) :
    (results fn tmps).run P w = .ok (.agg cs) w := results_cell_row h tmps w g ty cs (0, 0) d hp hg hu (by cases d <;> first | rfl | (simp [TypeDesc.isRow] at hd)) hi
theorem results_row2 {fn : Func} {p q : Tmp} {ty : TypeId} {P : Program} (h : fn.results = #[.cell p ty, .tmp q]) (tmps : Array Value) (w : World) (g : Nat) (cs : Array Value) (d : TypeDesc)
    (hp : tmps.getD p undef = .pointer (some ⟨g, 0, none⟩)) (hg : Blk w g ty cs) (hu : P.underlying ty = some d) (hd : d.isRow = true) (hi : (P.info? ty).map (·.size) = some cs.size) :
    (results fn tmps).run P w = .ok (.tuple #[.agg cs, tmps.getD q undef]) w := by
  have hp' : tmps[p]?.getD undef = .pointer (some ⟨g, 0, none⟩) := by simpa using hp
  simp [results, h, hp', asAddr, run_loadVar_row w g ty ty cs (0, 0) _ hg hu (by cases d <;> first | rfl | (simp [TypeDesc.isRow] at hd)) hi]
theorem results_row3 {fn : Func} {p q r : Tmp} {ty : TypeId} {P : Program} (h : fn.results = #[.cell p ty, .tmp q, .tmp r]) (tmps : Array Value) (w : World) (g : Nat) (cs : Array Value) (d : TypeDesc)
    (hp : tmps.getD p undef = .pointer (some ⟨g, 0, none⟩)) (hg : Blk w g ty cs) (hu : P.underlying ty = some d) (hd : d.isRow = true) (hi : (P.info? ty).map (·.size) = some cs.size) :
    (results fn tmps).run P w = .ok (.tuple #[.agg cs, tmps.getD q undef, tmps.getD r undef]) w := by
  have hp' : tmps[p]?.getD undef = .pointer (some ⟨g, 0, none⟩) := by simpa using hp
  simp [results, h, hp', asAddr, run_loadVar_row w g ty ty cs (0, 0) _ hg hu (by cases d <;> first | rfl | (simp [TypeDesc.isRow] at hd)) hi]
/-- Closing a function whose result is a cell of a new block. -/
theorem New.alsz {w w' : World} (h : New w w') (o : Obj) : New w (w'.alloc o) ∧ w.heap.size < (w'.alloc o).heap.size := ⟨New.al h o, by have := h.size; simp; omega⟩
section
variable {P Q S : Nat → Prop} {W W' : World} {v : Value} {L : List Fm} {N M : Nat} {r : Rl}
theorem RsIn.fr (h : RsIn P W v L) (hF : Fr S W W') (hS : ∀ k, P k → ¬ S k) : RsIn P W' v L := by
  obtain ⟨⟨A, c, e, hc, hr⟩, h2⟩ := h
  exact ⟨⟨A, c, e, hc, hr.fr hF hS⟩, fun x hx => ⟨(h2 x hx).1.fr hF hS, (h2 x hx).2⟩⟩
theorem RsIn.new (h : RsIn P W v L) (hN : New W W') : RsIn P W' v L := h.fr (hN.toFr NoB) (fun _ _ x => x)
theorem RsIn.imp (h : RsIn P W v L) (hq : ∀ k, P k → Q k) : RsIn Q W v L := by
  obtain ⟨⟨A, c, e, hc, hr⟩, h2⟩ := h
  exact ⟨⟨A, c, e, hc, hr.imp hq⟩, fun x hx => ⟨(h2 x hx).1.imp hq, (h2 x hx).2⟩⟩
theorem RsIn.nil : RsIn P W (.slice none 0 0) [] := ⟨⟨none, 0, rfl, Nat.le_refl _, Rd.nil⟩, fun _ h => by cases h⟩
theorem RlIn.fr (h : RlIn P W N r) (hF : Fr S W W') (hS : ∀ k, P k → ¬ S k) : RlIn P W' N r := ⟨h.f.fr hF hS, h.t.fr hF hS, h.fl, h.tl⟩
theorem RlIn.new (h : RlIn P W N r) (hN : New W W') : RlIn P W' N r := ⟨h.f.new hN, h.t.new hN, h.fl, h.tl⟩
theorem RlIn.imp (h : RlIn P W N r) (hq : ∀ k, P k → Q k) : RlIn Q W N r := ⟨h.f.imp hq, h.t.imp hq, h.fl, h.tl⟩
theorem RlIn.up (h : RlIn P W N r) (hm : N ≤ M) : RlIn P W M r := ⟨h.f, h.t, h.fl, Nat.le_trans h.tl hm⟩
/-- The place of a frame in a list. -/
theorem RsIn.at (h : RsIn P W v L) (hl : L.length ≤ 1000000) {j : Nat} (hj : j < L.length) : ∃ g o c, v = .slice (some ⟨g, o, none⟩) L.length c ∧ L.length ≤ c ∧ W.cell? ⟨g, o + j, none⟩ = some L[j].val := by
  obtain ⟨⟨A, c, rfl, hc, hr⟩, -⟩ := h
  obtain ⟨g, o, rfl, -, -, hq⟩ := hr.out (by omega) (by omega)
  exact ⟨g, o, c, rfl, hc, hq j _ (by rw [show (vals L)[j]? = (L[j]?).map Fm.val from List.getElem?_map .., List.getElem?_eq_getElem hj]; rfl)⟩
end

theorem rlane_in (i : Bool) (p : Int) (a b : Rl) (w : World) : Calls Try.prog 39 #[rnv p a b, .int .i64 (wayI i)] w fun e w' => e = .returned (.tuple #[(rsel i a b).val, .bool true]) ∧ New w w' := by
  obtain ⟨aA, an, ac, -, aB, am, ad, -⟩ := a
  obtain ⟨bA, bn, bc, -, bB, bm, bd, -⟩ := b
  unfold rnv rnc Rl.val Rl.cells
  cases i
  all_goals
    simp only [wayI, rsel]
    go_enter Try.func39, Try.ntmps39
    go_wp2_with fail
    refine bodyPost_ret (results_row2 rfl _ _ (w.heap.size + 1) _ _ rfl (Blk.new' _ _ _ (by simp)) Try.underlying52 rfl rfl) rfl ⟨rfl, ?_⟩
    repeat (first | exact New.refl _ | refine New.al ?_ _ | (refine New.set ?_ (by simp) _))
theorem rlane_bad (p : Int) (a b : Rl) (y : Int) (h1 : ¬ y = 1) (h2 : ¬ y = 2) (w : World) : Calls Try.prog 39 #[rnv p a b, .int .i64 y] w fun e w' => e = .returned (.tuple #[b.val, .bool false]) ∧ New w w' := by
  obtain ⟨aA, an, ac, -, aB, am, ad, -⟩ := a
  obtain ⟨bA, bn, bc, -, bB, bm, bd, -⟩ := b
  unfold rnv rnc Rl.val Rl.cells
  have b1 : ((y == 1) = false) := by simpa using h1
  have b2 : ((y == 2) = false) := by simpa using h2
  go_enter Try.func39, Try.ntmps39
  go_wp2_with fail
  refine bodyPost_ret (results_row2 rfl _ _ (w.heap.size + 1) _ _ rfl (Blk.new' _ _ _ (by simp)) Try.underlying52 rfl rfl) rfl ⟨rfl, ?_⟩
  repeat (first | exact New.refl _ | refine New.al ?_ _ | (refine New.set ?_ (by simp) _))
theorem rwith_in (i : Bool) (p : Int) (a b x : Rl) (w : World) : Calls Try.prog 36 #[rnv p a b, .int .i64 (wayI i), x.val] w fun e w' => e = .returned (rnv p (rput1 i a x) (rput2 i b x)) ∧ New w w' := by
  obtain ⟨aA, an, ac, -, aB, am, ad, -⟩ := a
  obtain ⟨bA, bn, bc, -, bB, bm, bd, -⟩ := b
  obtain ⟨xA, xn, xc, -, xB, xm, xd, -⟩ := x
  unfold rnv rnc Rl.val Rl.cells
  cases i
  all_goals
    simp only [wayI, rput1, rput2]
    go_enter Try.func36, Try.ntmps36
    go_wp2_with fail
    refine bodyPost_ret (results_row1 rfl _ _ (w.heap.size + 1 + 1) _ _ rfl (Blk.new' _ _ _ (by simp)) Try.underlying54 rfl rfl) rfl ⟨rfl, ?_⟩
    repeat (first | exact New.refl _ | refine New.al ?_ _ | (refine New.set ?_ (by simp) _))
/-- How many of a list are these bytes. -/
def cntR (L : List Fm) (xs : List Int) : Int := ((L.map Fm.xs).count xs : Nat)
theorem cntR_step {L : List Fm} {j : Nat} (h : j < L.length) (xs : List Int) : cntR (L.take (j + 1)) xs = cntR (L.take j) xs + (if L[j].xs = xs then 1 else 0) := by
  unfold cntR
  rw [List.take_succ_eq_append_getElem h, List.map_append, List.count_append]
  by_cases e : L[j].xs = xs
  · simp [e]
  · simp [e, List.count_cons]
theorem cntR_le (L : List Fm) (xs : List Int) : 0 ≤ cntR L xs ∧ cntR L xs ≤ L.length := by
  have := List.count_le_length (a := xs) (l := L.map Fm.xs)
  rw [List.length_map] at this
  unfold cntR
  omega
set_option maxHeartbeats 2000000 in
theorem rcount_q {P Q : Nat → Prop} (v : Value) (L : List Fm) (A : Option Addr) (n c : Nat) (xs : List Int) (w : World) (h : RsIn P w v L) (hl : L.length ≤ 1000000) (hR : Rd Q w 1 A n (u8s xs)) (hb : Byt xs) :
    Calls Try.prog 37 #[v, .slice A n c] w fun e w' => e = .returned (.int .i64 (cntR L xs)) ∧ ∃ m, w' = w.drewN m := by
  have H := Lib.hid h
  have hcx := fun q => run_conv (c := c) (w := w.drewN q) hR
  obtain ⟨st, hst⟩ : ∃ st, st = strOfNums xs := ⟨_, rfl⟩
  have hinj := fun ys (hy : Byt ys) => str_inj hy hb
  simp only [← hst] at hinj hcx
  have HI := Lib.hid hinj
  have HCX := Lib.hid hcx
  obtain ⟨⟨VA, vc, rfl, hvc, -⟩, -⟩ := h
  obtain ⟨N, hN⟩ : ∃ N, N = L.length := ⟨_, rfl⟩
  rw [← hN] at hvc hl ⊢
  have HN := Lib.hid hN
  clear hR hb hst hinj hN hcx
  go_enter Try.func37, Try.ntmps37
  go_wp2_with fail
  go_loopw [5, 6] (fun m i wr => ∃ (j q : Nat), j ≤ N ∧ i = .int .i64 j ∧ m = .int .i64 (cntR (L.take j) xs) ∧ wr = w.drewN q) (fun _ i _ => N - (intOf i).toNat)
  case atStart => exact ⟨0, 0, Nat.zero_le _, rfl, by simp [cntR], rfl⟩
  case round =>
    obtain ⟨j, q, hj, rfl, rfl, rfl⟩ := hrel
    have hle := cntR_le (L.take j) xs
    have htl : (L.take j).length ≤ j := List.length_take_le _ _
    have hc0 := hle.1
    have hc1 : cntR (L.take j) xs ≤ j := by omega
    by_cases hlt : j < N
    · have hjl : j < L.length := by rw [← HN.out]; exact hlt
      obtain ⟨g, o, c', e, -, hcell⟩ := H.out.at (by rw [← HN.out]; exact hl) hjl
      injection e with e1 e2 e3
      subst e1
      have hst := cntR_step hjl xs
      have hyr := H.out.el L[j] (List.getElem_mem _)
      generalize L[j] = y at hcell hst hyr
      obtain ⟨yA, yn, yc, ys⟩ := y
      simp only [Fm.val] at hcell
      have hcy := fun k => run_conv (c := yc) (w := (w.drewN q).drewN k) hyr.1
      have hcq := fun k => HCX.out (q + k)
      simp only [World.drewN_drewN] at hcy
      have hin := HI.out ys hyr.2.1
      generalize strOfNums ys = sy at hcy hin
      have HST := Lib.hid hst

      generalize cntR (L.take j) xs = k at hc0 hc1 HST ⊢
      clear hle htl hst hyr e2 e3
      by_cases hd : ys = xs
      · have hin' : (sy.toList == st.toList) = true := by rw [hin]; exact decide_eq_true hd
        have HE := Lib.hid hd
        clear hin hd
        go_wp2_with fail
        go_quiet (fail)
        go_wp2_with fail
        go_roundw
        case rel => exact ⟨j + 1, q + nq, by omega, by go_num, by rw [HST.out, if_pos HE.out], rfl⟩
        case measure => simp [intOf]; omega
      · have hin' : (sy.toList == st.toList) = false := by rw [hin]; exact decide_eq_false hd
        have HE := Lib.hid hd
        clear hin hd
        go_wp2_with fail
        go_quiet (fail)
        go_wp2_with fail
        go_roundw
        case rel => exact ⟨j + 1, q + nq, by omega, by go_num, by rw [HST.out, if_neg HE.out]; simp, rfl⟩
        case measure => simp [intOf]; omega
    · obtain rfl : j = N := by omega
      go_wp2_with fail
      go_ret
      refine ⟨?_, _, rfl⟩
      rw [List.take_of_length_le (by rw [HN.out]; exact Nat.le_refl _)]
      rfl
theorem rcount_any {P Q : Nat → Prop} (v : Value) (L : List Fm) (A : Option Addr) (n c : Nat) (xs : List Int) (w : World) (h : RsIn P w v L) (hl : L.length ≤ 1000000) (hR : Rd Q w 1 A n (u8s xs)) (hb : Byt xs) :
    Calls Try.prog 37 #[v, .slice A n c] w fun e w' => e = .returned (.int .i64 (cntR L xs)) ∧ New w w' :=
  (rcount_q v L A n c xs w h hl hR hb).mono fun _ _ ⟨h, m, hm⟩ => ⟨h, by rw [hm]; exact New.dn (New.refl _) _⟩
end Go.Proofs.Ytajoahhjgloefaa
