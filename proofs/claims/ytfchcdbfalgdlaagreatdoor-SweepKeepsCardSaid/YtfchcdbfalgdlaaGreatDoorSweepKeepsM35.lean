/- Texts of one proof, one behind the other: SwG, LkM, SwH, SwI. No condition but each one's own. -/
import Derived.Test.YtfchcdbfalgdlaaGreatDoorSweepKeepsM33
import Derived.Test.YtfchcdbfalgdlaaGreatDoorSweepKeepsM34
import Derived.Test.YtfchcdbfalgdlaaGreatDoorSweepKeepsM29
import Derived.Test.YtfchcdbfalgdlaaGreatDoorSweepKeepsM18
import Derived.Test.YtfchcdbfalgdlaaGreatDoorSweepKeepsM23
namespace Go.Proofs.YtfchcdbfalgdlaaGreatDoor
set_option linter.unusedVariables false
set_option linter.unusedSimpArgs false
set_option linter.constructorNameAsVariable false
open Go.RowKit Go.Sort Go.Maps
def GarbS (a b r : Nat) : Prop := r < 18446744073709551616 ∧ if b = 0 then r = 9221120237041090561 else Divs (a : Int) (b : Int) r
def dueB (x y : Nat) : Bool := FloatKind.f64.format.order x y == some .gt || FloatKind.f64.format.order x y == some .eq
theorem sdue_any (x y : Nat) (w : World) : Calls Tryz.prog 49 #[.float .f64 x, .float .f64 y] w fun e w' => e = .returned (.bool (dueB x y)) ∧ w = w' := by
 go_enter Tryz.func49, Tryz.ntmps49
 go_wp2_with fail
 go_ret
 exact ⟨rfl, rfl⟩
theorem secN_sum (L : List (List Int)) : (L.map fun b => secN b.length).sum ≤ L.length * 1193 := by
 induction L with
 | nil => simp
 | cons b L ih =>
  have := secN_le b.length
  rw [List.map_cons, List.sum_cons, List.length_cons]
  omega
theorem lused_any {w : World} {gl gd n : Nat} {l : LG} (h : Lg w gl gd l n) : Calls Tryz.prog 56 #[.pointer (some ⟨gl, 0, none⟩)] w fun e w' => e = .returned (.int .i64 l.used) ∧ w = w' := by
 have c4 := h.c4
 clear h
 go_enter Tryz.func56, Tryz.ntmps56
 go_wp2_with fail
 go_ret
 exact ⟨rfl, rfl⟩
section
variable {W w w' : World} {gs gd bs bf bt mm : Nat} {s : SW}
theorem broken_any (h : StIn W w gs gd bs bf bt s mm) : Calls Tryz.prog 20 #[.pointer (some ⟨gs, 0, none⟩)] w fun e w' => e = .returned (.bool s.broken) ∧ w = w' := by
 obtain ⟨_, _, _, _, _, _, h⟩ := h
 have c4 := h.c4
 clear h
 obtain ⟨b, hb⟩ := nm s.broken
 rw [← hb] at c4 ⊢
 clear hb
 go_enter Tryz.func20, Tryz.ntmps20
 go_wp2_with fail
 go_ret
 exact ⟨rfl, rfl⟩
theorem table_any (h : StIn W w gs gd bs bf bt s mm) (hN : New W w) : Calls Tryz.prog 17 #[.pointer (some ⟨gs, 0, none⟩)] w fun e w' => (∃ X' m' E' g' b', e = .returned (.pointer (some ⟨g', 0, none⟩)) ∧ TbIn X' w' W.heap.size g' b' m' E' ∧ cont E' = s.t ∧ m' ≤ mm ∧ E'.length ≤ mm ∧ w.heap.size ≤ g' ∧ w.heap.size ≤ b') ∧ New w w' := by
 obtain ⟨gl, gt, v, X, m, E, h⟩ := h
 have c2 := h.c2
 have HC := Lib.hid (copy_any_l19 h.tb hN.size)
 have HE := Lib.hid (And.intro h.ct h.mm)
 clear h hN
 go_enter Tryz.func17, Tryz.ntmps17
 go_wp2_with fail
 refine HC.out.mono ?_
 rintro e w1 ⟨g', b', rfl, hT, hN, h1, h2⟩
 go_wp2_with fail
 go_ret
 exact ⟨⟨X, m, E, g', b', rfl, hT, HE.out.1, HE.out.2.1, HE.out.2.2, h1, h2⟩, hN⟩
theorem sget_any (h : StIn W w gs gd bs bf bt s mm) {q : Nat → Prop} (A : Option Addr) (n c : Nat) (xs : List Int) (hR : Rd q w 1 A n (u8s xs)) (hb : Byt xs) (hn : n ≤ 1000000) : Calls Tryz.prog 11 #[.pointer (some ⟨gs, 0, none⟩), .slice A n c] w fun e w' => (∃ E : Tab, cont E = s.t ∧ ∃ A' c', e = .returned (.tuple #[.slice A' (tval E xs).n c', .bool (E.lookup xs).isSome]) ∧ w'.ownsRow w.heap.size 5 1 (.slice A' (tval E xs).n c') (tval E xs).n (u8s (tval E xs).xs)) ∧ New w w' := by
 obtain ⟨gl, gt, v, X, m, E, h⟩ := h
 have c2 := h.c2
 have HG := Lib.hid (get_any_l19 h.tb A n c xs hR hb hn)
 have HE := Lib.hid h.ct
 clear h hR hb hn
 go_enter Tryz.func11, Tryz.ntmps11
 go_wp2_with fail
 refine HG.out.mono ?_
 rintro e w1 ⟨A', c', rfl, hO, hN⟩
 go_wp2_with fail
 go_ret2
 exact ⟨⟨E, HE.out, A', c', rfl, hO⟩, hN⟩
set_option maxHeartbeats 4000000
set_option maxRecDepth 100000
theorem needS_of {T : CT} {R : List Sl} {s : SW} (hT : T = s.t) (h : RowsOk T R) : needS s = ((R.map fun x => putB x.L).map fun b => secN b.length).sum := by
 unfold needS
 rw [← hT, ← h.bs, List.map_map]
 rfl
theorem garbage_any (h : StIn W w gs gd bs bf bt s mm) (hm : mm ≤ 1000000) (hT : TOk s.t) : Calls Tryz.prog 12 #[.pointer (some ⟨gs, 0, none⟩)] w fun e w' => (∃ r, e = .returned (.float .f64 r) ∧ GarbS (s.l.used - needS s) s.l.used r) ∧ New w w' := by
 obtain ⟨gl, gt, v, X, m, E, h⟩ := h
 have c1 := h.c1
 have c2 := h.c2
 obtain ⟨u, hu⟩ := nm s.l.used
 have h1 := h.lg.ok.used
 have h2 := h.lg.ok.fit
 have h3 := h.dk.ok.s2
 have HU : Hid (u ≤ 16384) := Lib.hid (by omega)
 have HUS : Hid (∀ W', New w W' → Calls Tryz.prog 56 #[.pointer (some ⟨gl, 0, none⟩)] W' fun e w' => e = .returned (.int .i64 u) ∧ W' = w') := Lib.hid fun W' hN => by rw [hu]; exact lused_any (h.lg.new hN)
 have HB := Lib.hid (batches_any h.tb (by have := h.mm; omega) (by have := h.mm; omega))
 have HE := Lib.hid (And.intro h.ct h.mm)
 have HT := Lib.hid (And.intro hT hm)
 rw [← hu]
 clear h hu h1 h2 h3 hm hT
 go_enter Tryz.func12, Tryz.ntmps12
 go_wp2_with fail
 refine HB.out.mono ?_
 rintro e w1 ⟨⟨A, n, c, R, P, rfl, ⟨-, D, hBN, hD⟩, hcP, hRP, hS⟩, hN1⟩
 have HRO : Hid (RowsOk s.t R) := Lib.hid (rows_ok HT.out.1 (by rw [hcP, HE.out.1]) hRP hS (fun x hx => (hBN.row hx).lens))
 have hnle : n ≤ 1000000 := by
  have h1 := rows_le (R.map Sl.L) (fun l hl => by
   obtain ⟨x, hx, rfl⟩ := List.mem_map.1 hl
   have := (chsOk_spec (HRO.out.ok x hx)).1
   exact this)
  have h2 : P.length = E.length := by
   have h3 := congrArg List.length hcP
   have h4 := (sct_perm (cont E)).length_eq
   rw [h4, cont_len] at h3
   simpa [cl] using h3
  have h3 : (R.map Sl.L).flatten = P := by rw [hRP]; exact spl_flat szc P
  rw [h3, List.length_map, hBN.len] at h1
  have := HE.out.2.2
  have := HT.out.2
  omega
 have HNL := Lib.hid hnle
 have HBN := Lib.hid hBN
 have HN1 := Lib.hid hN1
 obtain ⟨bl, hbl⟩ := nm (R.map fun x => putB x.L)
 have HBL : Hid (bl = (R.map fun x => putB x.L) ∧ n = bl.length ∧ needS s = (bl.map fun b => secN b.length).sum) := Lib.hid ⟨hbl, by rw [hbl, List.length_map, hBN.len], by rw [hbl]; exact needS_of rfl HRO.out⟩
 clear hBN hD hcP hRP hS hN1 hnle hbl HB c2
 go_wp2_with fail
 go_loopw [3, 5, 6, 7, 17] (fun d _ _ _ i wr => ∃ (k : Nat), k ≤ n ∧ i = .int .i64 k ∧ d = .int .i64 ((((bl.take k).map fun b => secN b.length).sum : Nat) : Int) ∧ Hid (New w1 wr)) (fun _ _ _ _ i _ => n - (intOf i).toNat)
 case atStart => exact ⟨0, Nat.zero_le _, rfl, rfl, Lib.hid (New.refl _)⟩
 case round =>
  obtain ⟨k, hk, rfl, rfl, HW⟩ := hrel
  by_cases hlt : k < n
  · have hlt' : (k : Int) < (n : Int) := by omega
    have hk0 : (0 : Int) ≤ (k : Int) := by omega
    have hnb := HNL.out
    obtain ⟨ga, o, hl, hA, hcell⟩ := (HBN.out.new HW.out).at hlt
    subst hA
    obtain ⟨x, hx⟩ := nm R[k]
    rw [← hx] at hcell
    have HXM : Hid (x ∈ R) := Lib.hid (by rw [hx]; exact List.getElem_mem _)
    have HPU := Lib.hid (put_any x.A x.n x.c x.L wr ((HBN.out.new HW.out).row HXM.out) (HRO.out.ok x HXM.out))
    have HLT := Lib.hid hlt
    obtain ⟨sn, hsn⟩ := nm (secN (putB x.L).length)
    obtain ⟨S, hS⟩ := nm (((bl.take k).map fun b => secN b.length).sum)
    have hS2 := secN_sum (bl.take k)
    rw [← hS, List.length_take] at hS2
    have HS3 : Hid (((bl.take (k + 1)).map fun b => secN b.length).sum = S + sn) := Lib.hid (by
     have hb : bl[k]? = some (putB x.L) := by rw [HBL.out.1, List.getElem?_map, List.getElem?_eq_getElem hl, hx]; rfl
     rw [List.take_add_one, hb, List.map_append, List.sum_append, ← hS, hsn]
     simp)
    have hsl := secN_le (putB x.L).length
    have HSN : Hid (∀ W', Calls Tryz.prog 54 #[.int .i64 ((putB x.L).length : Nat)] W' fun e w' => e = .returned (.int .i64 sn) ∧ W' = w') := Lib.hid fun W' => by rw [hsn, ← secs_N]; exact sectors_any _ W'
    rw [← hsn] at hsl
    rw [← hS]
    obtain ⟨pn, hpn⟩ := nm (putB x.L).length
    rw [← hpn] at HPU HSN
    have hS5 : S + sn ≤ 2000000000 := by omega
    obtain ⟨S2, hS4⟩ := nm (S + sn)
    have e1 : (S : Int) + (sn : Int) = (S2 : Int) := by omega
    have e2 : IntKind.i64.wrap (S2 : Int) = (S2 : Int) := IntWalk.i64_in _ (by omega)
    rw [← hS4] at HS3
    clear hl hx hlt hS hS2 hsl hsn hpn hS5 hS4
    go_wp2_with fail
    refine HPU.out.mono ?_
    rintro e w6 ⟨⟨A6, c6, b6, rfl, hb6, hO6⟩, hN6⟩
    have HN6 : Hid (New w1 w6) := Lib.hid (HW.out.tr hN6)
    clear hb6 hO6 hN6 HPU
    go_wp2_with fail
    refine (HSN.out w6).mono ?_
    rintro e w7 ⟨rfl, rfl⟩
    go_wp2_with fail
    go_roundw
    case rel => exact ⟨k + 1, HLT.out, by go_num, by rw [HS3.out], HN6⟩
    case measure => simp [intOf]; have := HLT.out; omega
  · have hge : ¬ (k : Int) < (n : Int) := by omega
    have hkn : k = n := by omega
    subst hkn
    rw [HBL.out.2.1, List.take_length, ← HBL.out.2.2]
    obtain ⟨nd, hnd⟩ := nm (needS s)
    have HND : Hid (nd ≤ 2000000000) := Lib.hid (by rw [hnd, HBL.out.2.2]; have := secN_sum bl; have := HNL.out; have := HBL.out.2.1; omega)
    rw [← hnd]
    have HNDE := Lib.hid hnd
    clear hlt hnd
    have c1w := (HN1.out.tr HW.out).cell_ c1
    have k1 := cell_regrown c1w
    have cU := calls_regrown (w := wr) (v := .int .i64 u) (f := 56) (args := #[.pointer (some ⟨gl, 0, none⟩)]) (fun W' hN => (HUS.out W' ((HN1.out.tr HW.out).tr hN)).mono fun e w h => ⟨h.1, by rw [← h.2]; exact New.refl _⟩)
    obtain ⟨df, hdf⟩ := nm (u - nd)
    have e1 : IntKind.i64.wrap ((u : Int) - (nd : Int)) = (u : Int) - (nd : Int) := IntWalk.i64_in _ (by have := HU.out; have := HND.out; omega)
    have e2 : max (0 : Int) ((u : Int) - (nd : Int)) = (df : Int) := by omega
    have HDF : Hid (df = u - nd ∧ df = u - needS s) := Lib.hid ⟨hdf, by rw [hdf, HNDE.out]⟩
    clear hdf
    go_wp2_with fail
    refine wp_region_tail 13 (by kernel_rfl) (by kernel_rfl) ?_
    simp only [List.take_succ_cons, List.take_zero, List.drop_succ_cons, List.drop_zero]
    repeat (quiet_step (first | exact cU _ _))
    refine wpQuiet_nil ?_
    intro Wq hNq
    have HNq : Hid (New w1 Wq) := Lib.hid (HW.out.tr hNq)
    clear k1 cU hNq c1w
    by_cases h0 : u = 0
    · have hd0 : df = 0 := by rw [HDF.out.1]; omega
      subst h0 hd0
      have HSH := Lib.hid (share_zero Wq)
      go_wp2_with fail
      refine HSH.out.mono ?_
      rintro e w7 ⟨rfl, rfl⟩
      go_wp2_with fail
      go_ret
      exact ⟨⟨_, rfl, by decide, by rw [if_pos rfl]⟩, HN1.out.tr HNq.out⟩
    · have HSH := Lib.hid (share_some (df : Int) (u : Int) (by omega) Wq)
      have H0 := Lib.hid h0
      clear h0
      go_wp2_with fail
      refine HSH.out.mono ?_
      rintro e w7 ⟨r, rfl, hr, hb⟩
      have HR := Lib.hid hr
      have HB7 := Lib.hid hb
      clear hr hb
      go_wp2_with fail
      go_ret
      exact ⟨⟨r, rfl, HR.out.1, by rw [if_neg H0.out, ← HDF.out.2]; exact HR.out⟩, HN1.out.tr (HNq.out.tr HB7.out)⟩
def TidySays (W w : World) (gs gd bs bf bt mm : Nat) (s : SW) (y : Nat) (e : Ending) (w' : World) : Prop :=
 ∃ r, GarbS (s.l.used - needS s) s.l.used r ∧ if dueB r y = true then e = .returned (.tuple #[.bool (decide ((swpS s).2 = 0)), errD (swpS s).2]) ∧ StTo W w gs gd bs bf bt (swpS s).1 mm w' else e = .returned (.tuple #[.bool false, .nilIface]) ∧ StTo W w gs gd bs bf bt s mm w'
theorem tidy_any (h : StIn W w gs gd bs bf bt s mm) (hN : New W w) (hL : ShaIn 4 2 W) (hm : mm ≤ 1000000) (hT : TOk s.t) (y : Nat) : Calls Tryz.prog 10 #[.pointer (some ⟨gs, 0, none⟩), .float .f64 y] w (TidySays W w gs gd bs bf bt mm s y) := by
 have HI := Lib.hid h
 have HG := Lib.hid (garbage_any h hm hT)
 have HS : Hid (∀ w1, New w w1 → Calls Tryz.prog 16 #[.pointer (some ⟨gs, 0, none⟩)] w1 (StSays W w1 gs gd bs bf bt mm (swpS s))) := Lib.hid fun w1 hN1 => sweep_any (h.new hN1) (hN.tr hN1) hL hm hT
 obtain ⟨R, hR⟩ := nm (swpS s)
 rw [← hR] at HS
 have HR := Lib.hid hR
 clear h hN hL hm hT hR
 go_enter Tryz.func10, Tryz.ntmps10
 go_wp2_with fail
 refine HG.out.mono ?_
 rintro e w1 ⟨⟨r, rfl, hr⟩, hN1⟩
 have HGR := Lib.hid hr
 have HN1 := Lib.hid hN1
 obtain ⟨d, hd⟩ := nm (dueB r y)
 have HD := Lib.hid (sdue_any r y w1)
 rw [← hd] at HD
 have HDE := Lib.hid hd
 clear hr hN1 hd HG
 go_wp2_with fail
 refine HD.out.mono ?_
 rintro e w2 ⟨rfl, rfl⟩
 clear HD
 cases d with
 | false =>
  go_wp2_with fail
  go_ret2
  exact ⟨r, HGR.out, by rw [if_neg (by rw [← HDE.out]; decide)]; exact ⟨rfl, HI.out.new HN1.out, Kps.new HN1.out⟩⟩
 | true =>
  go_wp2_with fail
  refine (HS.out w1 HN1.out).mono ?_
  rintro e w2 ⟨rfl, hS2, hK2⟩
  have HS2 := Lib.hid hS2
  have HK2 : Hid (Kps (Mps bs bf bt) W w w2) := Lib.hid ((Kps.new HN1.out).tr hK2)
  clear hS2 hK2 HS
  by_cases h0 : R.2 = 0
  · have H0 := Lib.hid h0
    rw [h0, errD_0]
    clear h0
    go_wp2_with fail
    go_ret2
    exact ⟨r, HGR.out, by rw [if_pos HDE.out.symm, ← HR.out, decide_eq_true H0.out, H0.out, errD_0]; exact ⟨rfl, HS2.out, HK2.out⟩⟩
  · have H0 := Lib.hid h0
    have HE := Lib.hid (errD_n h0)
    rw [HE.out]
    clear h0
    go_wp2_with fail
    go_ret2
    exact ⟨r, HGR.out, by rw [if_pos HDE.out.symm, ← HR.out, decide_eq_false H0.out, HE.out]; exact ⟨rfl, HS2.out, HK2.out⟩⟩
end
end Go.Proofs.YtfchcdbfalgdlaaGreatDoor
namespace Go.Proofs.YtfchcdbfalgdlaaGreatDoor
set_option linter.unusedVariables false
set_option linter.unusedSimpArgs false
set_option linter.constructorNameAsVariable false
open Go.RowKit Go.Sort Go.Maps
def Dkl (W w : World) (gd : Nat) (p : DP) : Prop := ∃ bs bf v, Dk w W.heap.size gd bs bf v p ∧ New W w
section
variable {W w w' : World} {gd gl : Nat} {p : DP} {l : LG}
theorem dnew_l (hN : New W w) (n : Nat) (h1 : 1 ≤ n) (h2 : n ≤ 16384) : Calls Tryz.prog 22 #[.int .i64 n] w fun e w' => ∃ g, e = .returned (.tuple #[.pointer (some ⟨g, 0, none⟩), .nilIface]) ∧ Dkl W w' g (DP.new n) ∧ New w w' :=
 (new_ok n w W.heap.size hN.size h1 h2).mono fun e w' ⟨he, hD, hN'⟩ => ⟨_, he, ⟨_, _, _, hD, hN.tr hN'⟩, hN'⟩
end
end Go.Proofs.YtfchcdbfalgdlaaGreatDoor
namespace Go.Proofs.YtfchcdbfalgdlaaGreatDoor
set_option linter.unusedVariables false
set_option linter.unusedSimpArgs false
set_option linter.constructorNameAsVariable false
open Go.RowKit Go.Sort Go.Maps
theorem runs_len {p : DP} (hp : p.Ok) (l : LG) : ∀ k, (runs p l k).2.length + l.used ≤ (runs p l k).1.used
 | 0 => by show 0 + l.used ≤ l.used; omega
 | k + 1 => by
  have ih := runs_len hp l k
  cases hn : nextL p (runs p l k).1 with
  | none => rw [runs_none hn 1]; exact ih
  | some b =>
   have := step_used hp hn
   rw [runs_some hn]
   simp only [List.length_append, List.length_singleton]
   omega
theorem runL_len {p : DP} (hp : p.Ok) {n g : Nat} (h : 4 ≤ n) (hz : p.size = n) (hg : g < 4294967296) : (runL p (log0 n g)).2.length ≤ hlf n := by
 have h1 := runs_len hp (log0 n g) ((log0 n g).size + 1)
 have h2 := runs_ok hp (l := log0 n g) (n := n) (lg0_ok (hlf_fit (g := g) h).2.1 hg) ((log0 n g).size + 1)
 have h3 := h2.1.used
 rw [h2.2.1] at h3
 have h4 : (log0 n g).used = 0 := rfl
 have h5 : (log0 n g).size = hlf n := rfl
 show (runs p (log0 n g) _).2.length ≤ _
 omega
structure Sto (W w : World) (gs gd bs bf bt : Nat) (s : SW) (K : List (List Int)) (mm : Nat) : Prop where
 st : StIn W w gs gd bs bf bt s mm
 ok : SOk s K
 nw : New W w
section
variable {W w w' : World} {gs gd bs bf bt mm : Nat} {s : SW} {K : List (List Int)} {v : Value} {p : DP}
theorem Sto.new (h : Sto W w gs gd bs bf bt s K mm) (hN : New w w') : Sto W w' gs gd bs bf bt s K mm := ⟨h.st.new hN, h.ok, h.nw.tr hN⟩
theorem fmt_l (hD : Dk w W.heap.size gd bs bf v p) (hN : New W w) (hL : ShaIn 4 2 W) (hu : Up p) (h4 : 4 ≤ p.size) :
    Calls Tryz.prog 14 #[.pointer (some ⟨gd, 0, none⟩)] w fun e w' => e = .returned .nilIface ∧ (∃ v', Dk w' W.heap.size gd bs bf v' (fmtS p)) ∧ Kps (Mps bs bf bs) W w w' :=
 (format_any hD hN hL hu h4).mono fun e w' ⟨he, v', hT⟩ => ⟨he, ⟨v', hT.dk⟩, Kps.of hT.fr (dk_cls hD (.inl rfl) (.inr (.inl rfl)))⟩
theorem open_s (hD : Dk w W.heap.size gd bs bf v p) (hN : New W w) (hL : ShaIn 4 2 W) (hu : Up p) (h4 : 4 ≤ p.size) (hz : p.size ≤ 3000) (ho : opnS p = (s.p, 0, some s)) (hs : SOk s K) :
    Calls Tryz.prog 9 #[.pointer (some ⟨gd, 0, none⟩)] w fun e w' => ∃ gs bt, e = .returned (.tuple #[.pointer (some ⟨gs, 0, none⟩), .nilIface]) ∧ Sto W w' gs gd bs bf bt s K (600 * hlf p.size) ∧ w.heap.size ≤ gs ∧ w.heap.size ≤ bt ∧ Kps (Mps bs bf bs) W w w' := by
 have hr : (runL p (log0 p.size (cnt p))).2.length ≤ hlf p.size := runL_len hD.ok h4 rfl (by rw [← cntN_2]; exact cntN_lt hD.ok 2)
 have hh : hlf p.size ≤ 1600 := by unfold hlf; omega
 refine (sopen_any hD hN hL hu h4 (by omega)).mono fun e w' h => ?_
 unfold OpSays at h
 rw [ho] at h
 obtain ⟨gs, bt, he, hst, h1, h2, hK⟩ := h
 exact ⟨gs, bt, he, ⟨hst.up (Nat.mul_le_mul_left _ hr), hs, hK.nw hN⟩, h1, h2, hK⟩
theorem cut_s (h : Sto W w gs gd bs bf bt s K mm) {q : Nat → Prop} (A : Option Addr) (n c : Nat) (keep : List Bool) (hR : Rd q w 1 A n (bools keep)) (hn : n ≤ maxLen) (hq : ∀ k, q k → k < W.heap.size) :
    Calls Tryz.prog 25 #[.pointer (some ⟨gd, 0, none⟩), .slice A n c] w fun e w' => e = .returned (.tuple #[]) ∧ (∃ v', Dk w' W.heap.size gd bs bf v' (s.p.cut keep)) ∧ Kps (Mps bs bf bs) W w w' := by
 obtain ⟨gl, gt, v, X, m, E, hX⟩ := h.st
 refine (cut_in hX.dk A n c keep hR hn (fun k hk e => by have h3 := hq k hk; have h4 := (hX.dk.ours bs (.inr (.inl rfl))).1; omega)).mono fun e w' ⟨he, hD, hF⟩ => ?_
 exact ⟨he, ⟨_, hD⟩, Kps.of hF (fun k hk => dk_cls hX.dk (.inl rfl) (.inr (.inl rfl)) k (by rcases hk with h | h | h <;> simp [DkOurs, h]))⟩
theorem up_cut (p : DP) (keep : List Bool) : Up (p.cut keep) := ⟨rfl, rfl⟩
end
theorem opn_up {p : DP} {s : SW} (hu : Up p) (hok : p.Ok) (h4 : 4 ≤ p.size) (h : opnS p = (s.p, 0, some s)) : Up s.p := by
 unfold opnS at h
 have hg : cnt p < 4294967296 := by rw [← cntN_2]; exact cntN_lt hok 2
 have hr := (runs_ok hok (l := log0 p.size (cnt p)) (lg0_ok (hlf_fit h4).2.1 hg) ((log0 p.size (cnt p)).size + 1)).1
 have hw := (hu.wipe (l := (runL p (log0 p.size (cnt p))).1) hr.fit hr.used).2.1
 rw [if_neg (by omega)] at h
 split at h
 · simp at h
 · simp only at h
   split at h
   · injection h with h1 h2
     rw [← h1]
     exact hw
   · simp at h
section
variable {p : DP} {l : LG}
theorem Up.writeN (h : Up p) (b : List Int) (hf : l.first + l.size ≤ p.size) : ∀ k, l.used + k ≤ l.size → (writeN p l b k).2 = 0 ∧ Up (writeN p l b k).1 ∧ (writeN p l b k).1.size = p.size
 | 0, _ => ⟨rfl, h, rfl⟩
 | k + 1, hk => by
  obtain ⟨h1, h2, h3⟩ := h.writeN b hf k (by omega)
  rw [writeN_go h1]
  exact ⟨h2.wcode (by omega) (by rw [h3]; omega), h2.write _ _, (DP.doWrite_size _ _ _).trans h3⟩
end
def ch1 : PC := ⟨[97], [49], false⟩
theorem put1_len : (putP [ch1]).length = 9 := rfl
theorem commit1 {s : SW} (h : SOk s []) (hu : Up s.p) (hb : s.broken = false) (hg : s.gen + 1 < 4294967296) (ht : s.t.Perm []) : ∃ K', SOk (cmtS s [ch1]).1 K' ∧ (cmtS s [ch1]).2 = 0 ∧ (cmtS s [ch1]).1.t = [([97], [49])] ∧ (cmtS s [ch1]).1.p.size = s.p.size := by
 have hbt : ∀ c ∈ [ch1], PcB c := fun c hc => by
  rw [List.mem_singleton.1 hc]
  exact ⟨fun x hx => by simp [ch1] at hx; omega, fun x hx => by simp [ch1] at hx; omega⟩
 have hz : (cmtS s [ch1]).2 = 0 := by
  have hl : s.l = log0 s.p.size s.gen := by
   have := h.log
   rw [h.lb hb] at this
   exact this
  have hfit := hlf_fit (g := s.gen) h.n4
  have hw := hu.writeN (l := s.l) (putP [ch1]) (by rw [hl]; exact hfit.2.1) 1 (by rw [hl]; exact hfit.1)
  have ha : appL s.p s.l (putP [ch1]) = ((writeN s.p s.l (putP [ch1]) 1).1, s.l.step (putP [ch1]), 0) := by
   have hn : secN (putP [ch1]).length = 1 := by rw [put1_len]; rfl
   unfold appL
   rw [hn, if_neg (by decide), if_neg (by rw [h.lb hb]; decide), if_neg (by rw [hl]; have := hfit.1; show ¬ hlf s.p.size - 0 < 1; omega)]
   simp only
   rw [if_neg (by rw [hw.1]; simp)]
  have hadd : (addS s (putP [ch1])) = ({ s with p := (writeN s.p s.l (putP [ch1]) 1).1, l := s.l.step (putP [ch1]) }, 0) := by
   unfold addS
   rw [ha, if_pos (show (0 : Int) ≠ 8 by decide)]
  unfold cmtS
  rw [if_neg (by decide), if_neg (by rw [hb]; decide), if_neg (by rw [put1_len]; decide)]
  simp only
  rw [hadd, if_neg (show ¬ (0 : Int) ≠ 0 by decide)]
  simp only
  rw [if_neg (by rw [hw.2.1.scode]; decide)]
 obtain ⟨K', k1, k2, -, k3⟩ := h.commit hbt hg
 refine ⟨K', k1, hz, ?_, k2⟩
 rcases k3 with ⟨-, k4, -⟩ | ⟨k4, -⟩
 · rw [k4, List.Perm.eq_nil ht]
   rfl
 · exact absurd hz k4
end Go.Proofs.YtfchcdbfalgdlaaGreatDoor
namespace Go.Proofs.YtfchcdbfalgdlaaGreatDoor
set_option linter.unusedVariables false
set_option linter.unusedSimpArgs false
set_option linter.constructorNameAsVariable false
open Go.RowKit Go.Sort Go.Maps
set_option maxHeartbeats 4000000
set_option maxRecDepth 100000
theorem salive_any (W : World) (hL : ShaIn 4 2 W) : Calls Tryz.prog 7 #[] W fun e w' => e = .returned (.bool true) ∧ New W w' := by
 have HL := Lib.hid hL
 obtain ⟨hF1, hF2, hF3⟩ := fmt_ok (p := DP.new 20) (Clean.new (n := 20) (by decide) (by decide)).ok (Up.new 20) (by decide)
 obtain ⟨s1, o1, o2, o3, o4, o5, o6⟩ := hF1.open_ []
 rw [hF3] at o1
 have HO1 := Lib.hid (And.intro o1 (And.intro o2 (And.intro o3 (And.intro o4 (And.intro o5 o6)))))
 have HFS := Lib.hid (And.intro hF2 (fmt_up (Up.new 20) (p := DP.new 20) (by decide)))
 clear hL hF1 hF2 hF3 o1 o2 o3 o4 o5 o6
 have kc := fun (w : World) (C : Array Value) (n c : Nat) => Lib.run_convert_bytes_const (P := Tryz.prog) w 33 5 C n c Tryz.underlying33 Tryz.underlying5
 go_enter Tryz.func7, Tryz.ntmps7
 go_wp2_with fail
 refine (dnew_l (New.refl W) 20 (by decide) (by decide)).mono ?_
 rintro e w1 ⟨gd, rfl, ⟨bs, bf, v1, hD1, hN1⟩, -⟩
 have HD1 := Lib.hid hD1
 have HN1 := Lib.hid hN1
 clear hD1 hN1
 go_wp2_with fail
 refine (fmt_l HD1.out HN1.out HL.out (Up.new 20) (by decide)).mono ?_
 rintro e w2 ⟨rfl, ⟨v2, hD2⟩, hK2⟩
 have HD2 := Lib.hid hD2
 have HN2 : Hid (New W w2) := Lib.hid (hK2.nw HN1.out)
 clear hD2 hK2 HD1 HN1
 go_wp2_with fail
 refine (open_s HD2.out HN2.out HL.out HFS.out.2.1 (by rw [HFS.out.1]; decide) (by rw [HFS.out.1]; decide) HO1.out.1 HO1.out.2.1).mono ?_
 rintro e w3 ⟨gs, bt, rfl, hS3, -, -, -⟩
 have HS3 := Lib.hid hS3
 have HD2K := Lib.hid HD2.out.ok
 clear hS3 HD2 HN2
 have kc2 : ∀ (w : World) (o : Obj) (C : Array Value) (n c : Nat), (convert 33 33 (.slice (some ⟨w.heap.size + 1, 0, none⟩) n c)).run Tryz.prog ((w.alloc o).alloc (.cells C 5)) = .ok (.slice (some ⟨w.heap.size + 1, 0, none⟩) n c) ((w.alloc o).alloc (.cells C 5 (C.size, C.size + 1))) := fun w o C n c => by
  have := kc (w.alloc o) C n c
  simpa using this
 go_wp2_with fail
 refine calls_world fun w4 hw4 => ?_
 have HN4 : Hid (New w3 w4) := Lib.hid (by rw [hw4.out]; exact (New.refl _).al2 _ _ |>.al _)
 obtain ⟨q, hq⟩ := nm (fun k => IsT 5 w4 k ∨ IsT 92 w4 k)
 have HA4 : Hid (Rd q w4 1 (some ⟨w3.heap.size, 0, none⟩) 1 (u8s [97])) := Lib.hid (lit_rd (by rw [hw4.out]; exact New.al (New.al (New.refl _) _) _) (by rw [hq]; exact .inl ⟨_, _, by rw [hw4.out]; exact (Below.heap_alloc _ _ _ (by simp; omega)).trans ((Below.heap_alloc _ _ _ (by simp)).trans (World.alloc_heap_new w3 _))⟩))
 have HV4 : Hid (Rd q w4 1 (some ⟨w3.heap.size + 1, 0, none⟩) 1 (u8s [49])) := Lib.hid (by
  have := lit_rd (P := q) (x := 49) (w := w3.alloc (.cells #[.int .u8 97] 5 (1, 2))) (W := w4) (by rw [hw4.out]; exact New.al (New.refl _) _) (by rw [hq]; exact .inl ⟨_, _, by rw [hw4.out]; exact (Below.heap_alloc _ _ _ (by simp)).trans (World.alloc_heap_new _ _)⟩)
  simpa using this)
 have HB4 : Hid (Blk w4 (w3.heap.size + 1 + 1) 92 #[.slice (some ⟨w3.heap.size, 0, none⟩) 1 1, .slice (some ⟨w3.heap.size + 1, 0, none⟩) 1 1, .bool false]) := Lib.hid (by rw [hw4.out]; exact Blk.new' _ _ _ (by simp))
 have HC4 : Hid (Rd q w4 3 (some ⟨w3.heap.size + 1 + 1, 0, none⟩) 1 [.slice (some ⟨w3.heap.size, 0, none⟩) 1 1, .slice (some ⟨w3.heap.size + 1, 0, none⟩) 1 1, .bool false]) := Lib.hid (Rd.ofBlk HB4.out 3 1 rfl (by rw [hq]; exact .inr ⟨_, _, HB4.out⟩))
 have HQ : Hid (Kept1 W w4 q) := Lib.hid (by rw [hq]; exact fun k hk => .inr hk)
 have HCM := Lib.hid (commit1 HS3.out.ok (opn_up HFS.out.2.1 HD2K.out (by rw [HFS.out.1]; decide) HO1.out.1) HO1.out.2.2.2.1 (by rw [HO1.out.2.2.1]; decide) HO1.out.2.2.2.2.1)
 clear hw4 hq kc kc2
 refine (commit_any (HS3.out.new HN4.out).st (HS3.out.new HN4.out).nw HL.out (by rw [HFS.out.1]; decide) HS3.out.ok.tok (some ⟨w3.heap.size + 1 + 1, 0, none⟩) 1 1 [⟨⟨some ⟨w3.heap.size, 0, none⟩, 1, 1, [97]⟩, ⟨some ⟨w3.heap.size + 1, 0, none⟩, 1, 1, [49]⟩, false⟩] HC4.out rfl (fun c hc => by
  rw [List.mem_singleton] at hc
  subst hc
  exact ⟨⟨HA4.out, fun x hx => by simp at hx; omega⟩, ⟨HV4.out, fun x hx => by simp at hx; omega⟩⟩) HQ.out (by decide) (fun c hc => by
  rw [List.mem_singleton] at hc
  subst hc
  exact ⟨(show 1 ≤ maxLen by decide), (show 1 ≤ maxLen by decide)⟩)).mono ?_
 rintro e w5 ⟨rfl, hS5, hK5⟩
 have hpc : ([⟨⟨some ⟨w3.heap.size, 0, none⟩, 1, 1, [97]⟩, ⟨some ⟨w3.heap.size + 1, 0, none⟩, 1, 1, [49]⟩, false⟩] : List Ch).map pcOf = [ch1] := rfl
 rw [hpc] at hS5 ⊢
 obtain ⟨K5, hk5, hz5, ht5, hp5⟩ := HCM.out
 rw [hz5, errD_0]
 obtain ⟨s5, hs5⟩ := nm (cmtS s1 [ch1]).1
 rw [← hs5] at hS5 hk5 ht5 hp5
 have HS5 : Hid (Sto W w5 gs gd bs bf bt s5 K5 (600 * hlf (fmtS (DP.new 20)).size + 600)) := Lib.hid ⟨hS5, hk5, hK5.nw (HS3.out.new HN4.out).nw⟩
 obtain ⟨s6, o1, o2, o3, o4, o5, o6⟩ := hk5.open_ []
 have HO6 := Lib.hid (And.intro o1 (And.intro o2 (And.intro (o5.trans (by rw [ht5])) o6)))
 have HZ5 : Hid (s5.p.size = 20) := Lib.hid (by rw [hp5, HO1.out.2.2.2.2.2, HFS.out.1]; rfl)
 clear hS5 hK5 hpc hk5 hz5 ht5 hp5 hs5 o1 o2 o3 o4 o5 o6 HCM HS3 HA4 HV4 HB4 HC4 HQ
 go_wp2_with fail
 refine (cut_s HS5.out none 0 0 [] Rd.nil (by decide) (fun k (hk : False) => hk.elim)).mono ?_
 rintro e w6 ⟨rfl, ⟨v6, hD6⟩, hK6⟩
 have HD6 := Lib.hid hD6
 have HN6 : Hid (New W w6) := Lib.hid (hK6.nw HS5.out.nw)
 clear hD6 hK6
 go_wp2_with fail
 refine (open_s HD6.out HN6.out HL.out (up_cut _ _) (by show 4 ≤ s5.p.size; rw [HZ5.out]; decide) (by show s5.p.size ≤ 3000; rw [HZ5.out]; decide) HO6.out.1 HO6.out.2.1).mono ?_
 rintro e w7 ⟨gs7, bt7, rfl, hS7, -, -, -⟩
 have HS7 := Lib.hid hS7
 clear hS7 HD6 HN6 HS5
 have kc := fun (w : World) (C : Array Value) (n c : Nat) => Lib.run_convert_bytes_const (P := Tryz.prog) w 33 5 C n c Tryz.underlying33 Tryz.underlying5
 go_wp2_with fail
 clear kc
 refine calls_world fun w8 hw8 => ?_
 have HN8 : Hid (New w7 w8) := Lib.hid (by rw [hw8.out]; exact (New.refl _).al _)
 have HA8 : Hid (Rd (fun _ => True) w8 1 (some ⟨w7.heap.size, 0, none⟩) 1 (u8s [97])) := Lib.hid (lit_rd (by rw [hw8.out]; exact New.refl _) trivial)
 clear hw8
 refine (sget_any (HS7.out.new HN8.out).st (some ⟨w7.heap.size, 0, none⟩) 1 1 [97] HA8.out (fun x hx => by simp at hx; omega) (by decide)).mono ?_
 rintro e w9 ⟨⟨E, hE, A', c', rfl, hO9⟩, hN9⟩
 have hct : cont E = [([97], [49])] := by rw [hE]; exact List.perm_singleton.1 HO6.out.2.2.1
 have hlk : (E.lookup [97]).isSome = true ∧ (tval E [97]).xs = [49] := by
  cases E with
  | nil => simp [cont] at hct
  | cons e E =>
   simp only [cont, List.map_cons, List.cons.injEq, Prod.mk.injEq] at hct
   obtain ⟨⟨h1, h2⟩, -⟩ := hct
   have hl : (e :: E).lookup [97] = some e.2 := by
    rw [← h1]
    obtain ⟨a, b⟩ := e
    simp
   rw [hl]
   refine ⟨rfl, ?_⟩
   unfold tval
   rw [hl]
   exact h2
 have hRv := Rd.own hO9 rfl
 rw [hlk.2] at hRv
 rw [hlk.1]
 have hcv := run_conv (c := c') hRv
 have hst : strOfNums [49] = ⟨#[49]⟩ := rfl
 rw [hst] at hcv
 have HN9 : Hid (New W w9) := Lib.hid ((HS7.out.nw.tr HN8.out).tr hN9)
 clear hE hct hlk hO9 hRv hN9 hst
 go_wp2_with fail
 go_ret
 exact ⟨rfl, HN9.out⟩
end Go.Proofs.YtfchcdbfalgdlaaGreatDoor
