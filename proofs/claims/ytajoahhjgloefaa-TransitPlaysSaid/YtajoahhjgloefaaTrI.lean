/- What comes of All: the frames of a way, each a clone made in its round. No condition but the net's own. -/
import Derived.Test.YtajoahhjgloefaaTrE
import Derived.Test.YtajoahhjgloefaaRng
import Derived.OwnWalkIn
import Derived.TacticsInMore
import Derived.LoopNIn
import Derived.LoopIn
namespace Go.Proofs.Ytajoahhjgloefaa
open Go.RowKit Go.Maps
attribute [local go_sem] Oper.semAt_some

theorem clone_any (A : Option Addr) (n c : Nat) (L : List Fm) (w : World) (hO : Rd (fun b => b < w.heap.size) w 1 A n (vals L)) (hn : n ≤ 1000000) :
    Calls Try.prog 29 #[.slice A n c] w fun e w' => (∃ A' c', e = .returned (.slice A' n c') ∧ w'.ownsRow w.heap.size 33 1 (.slice A' n c') n (vals L)) ∧ New w w' := by
  have HR := Lib.hid hO
  rcases A with _ | ad
  · have h0 : n = 0 := by
      rcases Nat.eq_zero_or_pos n with h | h
      · exact h
      · obtain ⟨ad, h', _⟩ := hO.2 h
        cases h'
    subst h0
    have hz : L = [] := List.eq_nil_of_length_eq_zero (by have := hO.1; rw [vals_len] at this; omega)
    subst hz
    clear hO
    have hen := fun w => Lib.run_eql_slice_nil (P := Try.prog) w 50 33 none 0 c 0 0 Try.underlying50
    go_enter Try.func29, Try.ntmps29
    go_wp2_with fail
    go_ret
    exact ⟨⟨none, 0, rfl, World.ownsRow_nil _ _ _ _⟩, New.refl w⟩
  · clear hO
    have hen := fun w => Lib.run_eql_slice_nil (P := Try.prog) w 50 33 (some ad) n c 0 0 Try.underlying50
    go_enter Try.func29, Try.ntmps29
    go_wp2_with (at_builtin; refine wpList_app elL _ rfl (.tmp 5) (.tmp 6) rfl w.heap.size (.slice (some ⟨w.heap.size, 0, none⟩) 0 0) 0 [] rfl (own_lit (Blk.new w 33 #[]) (Nat.le_refl _)) (some ad) n c (vals L) rfl (New.rd (New.al (New.refl w) _) HR.out) (vals_one L) (by unfold maxLen; omega) (by omega) (by simp) ?_; intro A1 d1 w3 hO3 hF3 hA3; rw [Nat.zero_add]; rw [Nat.zero_add, List.nil_append] at hO3; have HO3 := Lib.hid hO3; have HN3 : Hid (New w w3) := Lib.hid ((New.al (New.refl w) _).fr hF3 (by intro k hk; simp [Value.ownBlock] at hk; omega)); clear hO3 hF3 hA3)
    go_ret
    exact ⟨⟨A1, d1, rfl, HO3.out⟩, HN3.out⟩

/-- A frame's bytes can be read. -/
def GoodF (x : Fm) (w : World) : Prop := Rd (IsT 5 w) w 1 x.A x.n (u8s x.xs) ∧ Byt x.xs ∧ x.n ≤ 1000
/-- Bytes, and rows of slices of bytes, stay. -/
def KpF (W W' : World) : Prop := W.heap.size ≤ W'.heap.size ∧ ∀ k, IsT 5 W k ∨ IsT 33 W k → W'.heap[k]? = W.heap[k]?
theorem GoodF.stay {x : Fm} {W W' : World} (h : GoodF x W) (hs : W.heap.size ≤ W'.heap.size) (hk : ∀ k, IsT 5 W k → W'.heap[k]? = W.heap[k]?) : GoodF x W' := by
  refine ⟨⟨h.1.1, fun hn => ?_⟩, h.2⟩
  obtain ⟨ad, e, hb, hlt, hc⟩ := h.1.2 hn
  have hbk := hk _ hb
  refine ⟨ad, e, ?_, Nat.lt_of_lt_of_le hlt hs, fun j u hu => ?_⟩
  · obtain ⟨cs, fz, hx⟩ := hb
    exact ⟨cs, fz, hbk.trans hx⟩
  · have := hc j u hu
    exact (World.cell?_of_block (w := W) (w' := W') (a := ad.add j) (by rw [add_block]; exact hbk)).trans this
theorem GoodF.new {x : Fm} {W W' : World} (h : GoodF x W) (hN : New W W') : GoodF x W' := h.stay hN.size fun k hk => by
  obtain ⟨cs, fz, hx⟩ := hk
  exact hN.block k (Array.getElem?_eq_some_iff.1 hx).1
theorem isT_puts {t : TypeId} {B : Nat} {W W' : World} (h : Puts B W W') {k : Nat} (hk : IsT t W k) : W'.heap[k]? = W.heap[k]? := by
  obtain ⟨l, o, o', -, hl, ho, rfl⟩ := h
  obtain ⟨cs, fz, hx⟩ := hk
  refine World.putObj_heap_other fun e => ?_
  rw [e, hl] at hx
  cases hx
  cases ho
theorem GoodF.puts {x : Fm} {B : Nat} {W W' : World} (h : GoodF x W) (hp : Puts B W W') : GoodF x W' :=
  h.stay (by obtain ⟨l, o, o', -, -, -, rfl⟩ := hp; simp) fun k hk => isT_puts hp hk
theorem KpF.puts {B : Nat} {W W' : World} (hp : Puts B W W') : KpF W W' :=
  ⟨by obtain ⟨l, o, o', -, -, -, rfl⟩ := hp; simp, fun k hk => hk.elim (isT_puts hp) (isT_puts hp)⟩
theorem isT_keep {t : TypeId} {W W' : World} {k : Nat} (h : IsT t W k) (e : W'.heap[k]? = W.heap[k]?) : IsT t W' k := by
  obtain ⟨cs, fz, hx⟩ := h
  exact ⟨cs, fz, e.trans hx⟩
theorem KpF.tr {A W W' : World} (h : KpF A W) (k : KpF W W') : KpF A W' :=
  ⟨Nat.le_trans h.1 k.1, fun i hi => (k.2 i (hi.imp (fun x => isT_keep x (h.2 i hi)) (fun x => isT_keep x (h.2 i hi)))).trans (h.2 i hi)⟩
theorem KpF.own {W W' : World} {base n : Nat} {v : Value} {xs : List Value} (h : KpF W W') (ho : W.ownsRow base 33 1 v n xs) : W'.ownsRow base 33 1 v n xs := by
  have ht := fun k hk => own_isT (k := k) ho hk
  rcases ho with ⟨h1, h2⟩
  refine ⟨h1, ?_⟩
  rcases h2 with h2 | ⟨g, cap, cur, rfl, hb, hh, rest⟩
  · exact .inl h2
  · exact .inr ⟨g, cap, cur, rfl, hb, (h.2 g (.inr (ht g (by simp [Value.ownBlock])))).trans hh, rest⟩
theorem KpF.good {x : Fm} {W W' : World} (h : KpF W W') (hg : GoodF x W) : GoodF x W' := hg.stay h.1 fun k hk => h.2 k (.inl hk)

theorem all1_badR (a : Int) (h1 : ¬ a = 1) (h2 : ¬ a = 2) (g b1 b2 : Nat) (w : World) (hc1 : w.cell? ⟨b1, 0, none⟩ = some (.pointer (some ⟨g, 0, none⟩))) (hc2 : w.cell? ⟨b2, 0, none⟩ = some (.int .i64 a)) :
    GivesR (fun _ _ => False) Try.prog 27 #[.pointer (some ⟨b1, 0, none⟩), .pointer (some ⟨b2, 0, none⟩)] (fun x : Fm => #[x.val]) GoodF KpF (fun xs => xs = []) 256 w := by
  intro l J W hW hJ hY h0
  refine callsIn_wide.2 ?_
  have i1 := New.cell_ hW hc1
  have i2 := New.cell_ hW hc2
  have HB := Lib.hid (lane_bad a h1 h2 g W)
  have H0 := Lib.hid h0
  clear hY hJ hW hc1 hc2 h0 h1 h2
  show Calls Try.prog 27 #[.func (.yield l) #[] #[], .pointer (some ⟨b1, 0, none⟩), .pointer (some ⟨b2, 0, none⟩)] W _
  go_enter Try.func27, Try.ntmps27
  go_wp2_with fail
  refine HB.out.mono ?_
  rintro e w' ⟨rfl, rfl⟩
  go_wp2_with fail
  refine bodyPost_ret (v := .tuple #[]) (by simp [results, Try.results27, go_sem]) rfl ?_
  exact ⟨⟨_, rfl⟩, [], rfl, H0.out⟩
theorem all1_bad (a : Int) (h1 : ¬ a = 1) (h2 : ¬ a = 2) (g b1 b2 : Nat) (w : World) (hc1 : w.cell? ⟨b1, 0, none⟩ = some (.pointer (some ⟨g, 0, none⟩))) (hc2 : w.cell? ⟨b2, 0, none⟩ = some (.int .i64 a)) :
    Gives Try.prog 27 #[.pointer (some ⟨b1, 0, none⟩), .pointer (some ⟨b2, 0, none⟩)] (fun x : Fm => #[x.val]) GoodF KpF (fun xs => xs = []) 256 w :=
  (all1_badR a h1 h2 g b1 b2 w hc1 hc2).gives

set_option maxHeartbeats 2000000 in
theorem all1_givesR {X : Nat → Prop} {w : World} {base g : Nat} {p : Int} {l1 l2 : Ln} {N : Nat} (h : Nt X w base g p l1 l2 N) (i : Bool) (b1 b2 : Nat) (hc1 : w.cell? ⟨b1, 0, none⟩ = some (.pointer (some ⟨g, 0, none⟩))) (hc2 : w.cell? ⟨b2, 0, none⟩ = some (.int .i64 (wayI i))) :
    GivesR (fun pre x => ∃ k : Nat, pre.length = k ∧ ∃ y, (sel i l1 l2).L[k]? = some y ∧ y.xs = x.xs) Try.prog 27 #[.pointer (some ⟨b1, 0, none⟩), .pointer (some ⟨b2, 0, none⟩)] (fun x : Fm => #[x.val]) GoodF KpF (fun xs => xs.map Fm.xs = (sel i l1 l2).L.map Fm.xs) 256 w := by
  intro l J W hW hJ hY h0
  refine callsIn_wide.2 ?_
  have i1 := New.cell_ hW hc1
  have i2 := New.cell_ hW hc2
  have hT := h.new hW
  have HY := Lib.hid hY
  have HJ := Lib.hid hJ
  have H0 := Lib.hid h0
  obtain ⟨c0, -, hL⟩ := hT.at i
  have hown := hL.own
  obtain ⟨A, c, hv, hnc, hcm, -, -⟩ := own_shape hown
  rw [hv] at c0 hown
  have hgood : ∀ x ∈ (sel i l1 l2).L, GoodF x W := fun x hx => ⟨(hL.reads x hx).1.imp fun k hk => (hT.xs k hk).2, (hL.reads x hx).2⟩
  have hlen := hL.len
  generalize (sel i l1 l2).L = L at *
  generalize hn : L.length = n at *
  have HG := Lib.hid hgood
  have HO := Lib.hid hown
  clear hY hJ hW hc1 hc2 h0 h hT hL hv hgood hown hcm
  show Calls Try.prog 27 #[.func (.yield l) #[] #[], .pointer (some ⟨b1, 0, none⟩), .pointer (some ⟨b2, 0, none⟩)] W _
  go_enter Try.func27, Try.ntmps27
  go_wp2_with fail
  refine (lane_in i g W).mono ?_
  rintro e w' ⟨rfl, rfl⟩
  go_wp2_with fail
  refine (clone_any A n c L W (rd_szs (Rd.own HO.out rfl)) (by omega)).mono ?_
  rintro e w1 ⟨⟨A1, c1, rfl, hO1⟩, hN1⟩
  have HO1 := Lib.hid hO1
  have HN1 : Hid (New W w1) := Lib.hid hN1
  have HJ1 := Lib.hid (HJ.out _ _ _ H0.out hN1)
  have HG1 : Hid (∀ x ∈ L, GoodF x w1) := Lib.hid fun x hx => (HG.out x hx).new hN1
  clear hO1 hN1
  go_wp2_with fail
  clear c0 hnc i1 i2
  go_loopw [22] (fun ix wr => ∃ (k : Nat) (pre : List Fm), k ≤ n ∧ ix = .int .i64 k ∧ pre.map Fm.xs = (L.take k).map Fm.xs ∧ Hid (J pre wr) ∧ Hid (wr.ownsRow W.heap.size 33 1 (.slice A1 n c1) n (vals L)) ∧ Hid (∀ x ∈ L, GoodF x wr)) (fun ix _ => n - (intOf ix).toNat)
  case atStart => exact ⟨0, [], Nat.zero_le _, rfl, by simp, HJ1, HO1, HG1⟩
  case round =>
    obtain ⟨k, pre, hk, rfl, hpre, HJk, HOk, HGk⟩ := hrel
    clear HJ1 HO1 HG1 H0 HG HO
    by_cases hlt : k < n
    · obtain ⟨bA, cA, he, -, -⟩ := own_form HOk.out (by omega)
      injection he with he1 he2 he3
      subst he1 he3
      have hkL : k < L.length := by omega
      obtain ⟨x, hx⟩ : ∃ x, x = L[k] := ⟨_, rfl⟩
      have hxm : x ∈ L := by rw [hx]; exact List.getElem_mem _
      have HXK : Hid (L[k]? = some x) := Lib.hid (by rw [List.getElem?_eq_getElem hkL, hx])
      have hcell : wr.cell? ⟨bA, k, none⟩ = some x.val := by
        obtain ⟨g', o', hA, -, -, hq⟩ := (Rd.own HOk.out rfl).out (by omega) (by omega)
        injection hA with hA
        injection hA with e1 e2 e3
        subst e1 e2
        have := hq k x.val (by rw [show (vals L)[k]? = (L[k]?).map Fm.val from List.getElem?_map .., HXK.out]; rfl)
        rwa [Nat.zero_add] at this
      have HGX := Lib.hid (HGk.out x hxm)
      have hk0 : (0 : Int) ≤ (k : Int) := by omega
      have hkn : (k : Int) < (n : Int) := by omega
      clear hx hxm hkL
      obtain ⟨xA, xn, xc, xs⟩ := x
      simp only [Fm.val] at hcell
      go_upto_region 5 with fail
      refine (wpIn_wide (n := 3)).1 ?_
      gi_wp2
      refine ⟨trivial, ?_⟩
      have hpl : pre.length < 256 := by
        have := congrArg List.length hpre
        simp at this
        omega
      refine (callsIn_wide.2 (bclone_any xA xn xc xs wr (rd_szs HGX.out.1) (by have := HGX.out.2.2; dsimp only at this; omega))).mono ?_
      rintro e w2 ⟨⟨A2, c2, rfl, hO2⟩, hN2⟩
      obtain ⟨fn, tmps, asg, bo, hy, hR⟩ := HY.out pre ⟨A2, xn, c2, xs⟩ w2 hpl (HJ.out _ _ _ HJk.out hN2) ⟨RdT.own hO2 rfl, HGX.out.2⟩ ⟨k, by have := congrArg List.length hpre; simp at this; omega, _, HXK.out, rfl⟩
      simp only [Fm.val] at hy
      have HN2 : Hid (New wr w2) := Lib.hid hN2
      have HR := Lib.hid hR
      clear hO2 hN2 hR
      gi_wp2
      refine HR.out.mono ?_
      rintro e w3 ⟨rfl, hJ3, hK3⟩
      have HJ3 := Lib.hid hJ3
      have HK3 := Lib.hid hK3
      clear hJ3 hK3 HR hy hcell
      gi_wp2
      try go_wp2_with fail
      go_roundw
      case rel =>
        refine ⟨k + 1, pre ++ [⟨A2, xn, c2, xs⟩], by omega, by go_num, ?_, HJ3, Lib.hid (HK3.out.own (New.own HN2.out HOk.out)), Lib.hid fun y hy => HK3.out.good ((HGk.out y hy).new HN2.out)⟩
        rw [List.map_append, hpre, List.take_add_one, HXK.out]
        simp
      case measure => simp [intOf]; omega
    · as_aux_lemma =>
      obtain rfl : k = n := by omega
      go_wp2_with fail
      go_end0
      exact ⟨⟨_, rfl⟩, pre, by rw [hpre, ← hn, List.take_length], HJk.out⟩
theorem all1_gives {X : Nat → Prop} {w : World} {base g : Nat} {p : Int} {l1 l2 : Ln} {N : Nat} (h : Nt X w base g p l1 l2 N) (i : Bool) (b1 b2 : Nat) (hc1 : w.cell? ⟨b1, 0, none⟩ = some (.pointer (some ⟨g, 0, none⟩))) (hc2 : w.cell? ⟨b2, 0, none⟩ = some (.int .i64 (wayI i))) :
    Gives Try.prog 27 #[.pointer (some ⟨b1, 0, none⟩), .pointer (some ⟨b2, 0, none⟩)] (fun x : Fm => #[x.val]) GoodF KpF (fun xs => xs.map Fm.xs = (sel i l1 l2).L.map Fm.xs) 256 w :=
  (all1_givesR h i b1 b2 hc1 hc2).gives
end Go.Proofs.Ytajoahhjgloefaa
