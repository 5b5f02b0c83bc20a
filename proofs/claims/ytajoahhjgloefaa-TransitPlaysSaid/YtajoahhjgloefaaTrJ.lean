/- Nets: Twice, Lost. No condition but the net's own. -/
import Derived.Test.YtajoahhjgloefaaTrE
namespace Go.Proofs.Ytajoahhjgloefaa
open Go.RowKit Go.Maps

theorem twice_bad (a k : Int) (h1 : ¬ a = 1) (h2 : ¬ a = 2) (g : Nat) (w : World) : Calls Try.prog 15 #[.pointer (some ⟨g, 0, none⟩), .int .i64 a, .int .u64 k] w fun e w' => e = .returned (.iface 45 (.int .i64 2)) ∧ w = w' := by
  have HB := Lib.hid (pick_bad a k h1 h2 g w)
  clear h1 h2
  go_enter Try.func15, Try.ntmps15
  go_wp2_with fail
  refine HB.out.mono ?_
  rintro e w' ⟨rfl, rfl⟩
  go_wp2_with fail
  go_ret
  exact ⟨rfl, rfl⟩
theorem twice_none {X : Nat → Prop} {w : World} {base g : Nat} {p : Int} {l1 l2 : Ln} {N : Nat} (h : Nt X w base g p l1 l2 N) (i : Bool) (k : Int) (h0 : (sel i l1 l2).L = []) :
    Calls Try.prog 15 #[.pointer (some ⟨g, 0, none⟩), .int .i64 (wayI i), .int .u64 k] w fun e w' => e = .returned (.iface 45 (.int .i64 11)) ∧ w = w' := by
  have HB := Lib.hid (pick_none h i k h0)
  clear h h0
  go_enter Try.func15, Try.ntmps15
  go_wp2_with fail
  refine HB.out.mono ?_
  rintro e w' ⟨rfl, rfl⟩
  go_wp2_with fail
  go_ret
  exact ⟨rfl, rfl⟩
theorem lost_bad (a : Int) (h1 : ¬ a = 1) (h2 : ¬ a = 2) (g : Nat) (v : Value) (w : World) : Calls Try.prog 23 #[.pointer (some ⟨g, 0, none⟩), .int .i64 a, v] w fun e w' => e = .returned (.int .i64 0) ∧ w = w' := by
  have HB := Lib.hid (lane_bad a h1 h2 g w)
  clear h1 h2
  go_enter Try.func23, Try.ntmps23
  go_wp2_with fail
  refine HB.out.mono ?_
  rintro e w' ⟨rfl, rfl⟩
  go_wp2_with fail
  go_ret
  exact ⟨rfl, rfl⟩
theorem lost_in {X q : Nat → Prop} {w : World} {base g : Nat} {p : Int} {l1 l2 : Ln} {N : Nat} (h : Nt X w base g p l1 l2 N) (i : Bool) (A : Option Addr) (n c : Nat) (xs : List Int) (hR : Rd q w 1 A n (u8s xs)) (hb : Byt xs) (hn : n ≤ 1000000) :
    Calls Try.prog 23 #[.pointer (some ⟨g, 0, none⟩), .int .i64 (wayI i), .slice A n c] w fun e w' => e = .returned (.int .i64 ((sel i l1 l2).lost xs)) ∧ New w w' := by
  obtain ⟨-, c1, hL⟩ := h.at i
  have hxl : xs.length = n := by have := hR.1; rw [u8s_len] at this; omega
  have hko := key_of (xs := xs) (by omega)
  have hcv := fun q => run_conv (c := c) (w := w.drewN q) hR
  have hcnt := hL.cnt xs hb
  have hlk : ∀ q, (Instr.lookup 30 (.map (some (sel i l1 l2).b)) (.string (strOfNums xs)) false).run Try.prog (w.drewN q) = .ok (.int .i64 ((sel i l1 l2).lost xs)) (w.drewN q) := fun q => by
    have hM : MapAt (w.drewN q) Try.prog 9 (sel i l1 l2).b (sel i l1 l2).m (sel i l1 l2).f := hL.map
    have := (hM.look keyS Try.underlying30 (z := .int .i64 0) (by kernel_rfl) hko).2
    rwa [hcnt] at this
  generalize strOfNums xs = st at hko hcv hlk
  generalize (sel i l1 l2).lost xs = r at hlk ⊢
  clear hko hcnt hL hR h hb
  go_enter Try.func23, Try.ntmps23
  go_wp2_with fail
  refine (lane_in i g w).mono ?_
  rintro e w' ⟨rfl, rfl⟩
  go_wp2_with fail
  go_quiet (fail)
  go_wp2_with fail
  go_ret
  exact ⟨rfl, New.dn (New.refl _) _⟩
set_option maxHeartbeats 2000000 in
theorem twice_in {X : Nat → Prop} {w : World} {base g : Nat} {p : Int} {l1 l2 : Ln} {N : Nat} (h : Nt X w base g p l1 l2 N) (i : Bool) (k : Int) (hk0 : 0 ≤ k) (hk1 : k < 18446744073709551616) (x : Fm)
    (hx : (sel i l1 l2).L[k.toNat % (sel i l1 l2).L.length]? = some x) :
    Calls Try.prog 15 #[.pointer (some ⟨g, 0, none⟩), .int .i64 (wayI i), .int .u64 k] w fun e w' =>
      (256 ≤ (sel i l1 l2).L.length → e = .returned (.iface 45 (.int .i64 12)) ∧ New w w') ∧
      ((sel i l1 l2).L.length < 256 → e = .returned .nilIface ∧ ∃ (X' : Nat → Prop) (l' : Ln), Nt X' w' base g p (put1 i l1 l') (put2 i l2 l') N ∧
        l'.L.map Fm.xs = (sel i l1 l2).L.map Fm.xs ++ [x.xs] ∧ l'.lost = (sel i l1 l2).lost ∧ Fr (No g l1 l2) w w' ∧ (∀ k, X' k → X k ∨ w.heap.size ≤ k) ∧ ∀ k, Lo l' k → Lo (sel i l1 l2) k ∨ w.heap.size ≤ k) := by
  have h0 : 0 < (sel i l1 l2).L.length := by
    rcases Nat.eq_zero_or_pos (sel i l1 l2).L.length with e | e
    · rw [List.eq_nil_of_length_eq_zero e] at hx
      simp at hx
    · exact e
  have HP := Lib.hid (pick_some h i k hk0 hk1 h0)
  have H := Lib.hid h
  have hjl : k.toNat % (sel i l1 l2).L.length < (sel i l1 l2).L.length := Nat.mod_lt _ h0
  clear hk0 hk1 h0 h
  generalize k.toNat % (sel i l1 l2).L.length = j at HP hjl hx ⊢
  have hxm : x ∈ (sel i l1 l2).L := List.mem_of_getElem? hx
  go_enter Try.func15, Try.ntmps15
  go_wp2_with fail
  refine HP.out.mono ?_
  rintro e w1 ⟨rfl, hN1⟩
  have HN1 : Hid (New w w1) := Lib.hid hN1
  have H1 := Lib.hid (H.out.new hN1)
  clear HP hN1
  obtain ⟨c0, -, hL⟩ := H1.out.at i
  have hown := hL.own
  obtain ⟨b, c, hv, hnc, hcm⟩ := own_form hown (by omega)
  have hcell : w1.cell? ⟨b, j, none⟩ = some x.val := by
    rw [hv] at hown
    obtain ⟨g', o', hA, -, -, hq⟩ := (Rd.own hown rfl).out (by omega) (by omega)
    injection hA with hA
    injection hA with e1 e2 e3
    subst e1 e2
    have := hq j x.val (by rw [show (vals (sel i l1 l2).L)[j]? = ((sel i l1 l2).L[j]?).map Fm.val from List.getElem?_map .., hx]; rfl)
    rwa [Nat.zero_add] at this
  obtain ⟨r1, r2, r3⟩ := hL.reads x hxm
  have HBY := Lib.hid r2
  have HAF := Lib.hid (fun v => add_full (sel i l1 l2) g (off i) v w1 base hL.own c0)
  have HAA := Lib.hid (add_any (sel i l1 l2) g (off i) 71 (nslots p l1 l2) X x.A x.n x.c x.xs w1 base hL.own H1.out.base_ c0 H1.out.blk (fun e => H1.out.noG i (.inr e)))
  have HR1 := Lib.hid r1
  have c0' := c0
  rw [hv] at c0'
  obtain ⟨n, hnl⟩ : ∃ n, n = (sel i l1 l2).L.length := ⟨_, rfl⟩
  rw [← hnl] at c0' hnc
  have HNL := Lib.hid hnl
  have hjn : (j : Int) < (n : Int) := by omega
  have hj0 : (0 : Int) ≤ (j : Int) := by omega
  clear hown hL hxm hx r1 r2 hv c0 hnl
  simp only [Fm.val] at hcell
  by_cases hf : 256 ≤ (sel i l1 l2).L.length
  · have HFL := Lib.hid hf
    clear hf
    go_wp2_with fail
    refine (HAF.out _ HFL.out).mono ?_
    rintro e w' ⟨rfl, rfl⟩
    go_wp2_with fail
    go_ret
    exact ⟨fun _ => ⟨rfl, HN1.out⟩, fun h => absurd h (by have := HFL.out; omega)⟩
  · have HFL : Hid ((sel i l1 l2).L.length < 256) := Lib.hid (by omega)
    clear hf
    go_wp2_with fail
    refine (HAA.out HFL.out HR1.out r3).mono ?_
    rintro e w2 ⟨rfl, v', y, hys, hyn, hO, hRx, hB, hF, hv⟩
    have HO := Lib.hid hO
    have HRx := Lib.hid hRx
    have HB := Lib.hid hB
    have HF := Lib.hid hF
    have HV := Lib.hid hv
    have HYS := Lib.hid hys
    clear hO hRx hB hF hv HAA HAF hys
    go_wp2_with fail
    go_ret
    refine ⟨fun h => absurd h (by have := HFL.out; omega), fun _ => ⟨rfl, ?_⟩⟩
    obtain ⟨-, -, hL⟩ := H1.out.at i
    have hS : ∀ k, (k = g ∨ (sel i l1 l2).v.ownBlock = some k) → k = g ∨ Lo (sel i l1 l2) k := fun k hk => hk.imp id .inr
    have hno : ∀ k, (k = g ∨ (sel i l1 l2).v.ownBlock = some k) → ¬ X k := fun k hk hx => H1.out.not (No.sel (hS k hk)) hx
    refine ⟨fun k => X k ∨ (w1.heap.size ≤ k ∧ IsT 5 w2 k), ⟨v', (sel i l1 l2).L ++ [y], (sel i l1 l2).b, (sel i l1 l2).m, (sel i l1 l2).f, (sel i l1 l2).lost⟩, ?_, by simp [HYS.out], rfl, (HN1.out.toFr _).trans (HF.out.mono fun k _ hk => No.sel (hS k hk)), fun k hk => hk.imp id (fun e => Nat.le_trans HN1.out.size e.1), ?_⟩
    · refine H1.out.put i ⟨?_, ?_, hL.lb, ?_, ?_, hL.cnt, hL.low⟩ HB.out rfl HF.out hS ?_ (fun k => .inl) (fun k hk => hk) ?_ (Nat.le_refl _)
      · show w2.ownsRow base 33 1 v' ((sel i l1 l2).L ++ [y]).length (vals ((sel i l1 l2).L ++ [y]))
        rw [List.length_append]
        exact HO.out
      · refine hL.map.fr HF.out ?_
        rintro (e | e)
        · exact H1.out.noG i (.inl e.symm)
        · exact own_ne_map hL e
      · intro z hz
        rcases List.mem_append.1 hz with hz | hz
        · obtain ⟨q1, q2⟩ := hL.reads z hz
          exact ⟨(q1.fr HF.out (fun k hk hs => hno k hs hk)).imp fun k => .inl, q2⟩
        · obtain rfl := List.mem_singleton.1 hz
          exact ⟨by rw [HYS.out]; exact HRx.out.imp fun k => .inr, by rw [HYS.out]; exact HBY.out, by omega⟩
      · show ((sel i l1 l2).L ++ [y]).length ≤ 256
        have := HFL.out
        simp; omega
      · rintro k (e | e)
        · exact .inl (.inl e)
        · exact (HV.out k e).imp .inr id
      · cases i
        · exact H1.out.m1
        · exact H1.out.m2
    · rintro k (e | e)
      · exact .inl (.inl e)
      · exact (HV.out k e).imp .inr (fun e => Nat.le_trans HN1.out.size e)
end Go.Proofs.Ytajoahhjgloefaa
