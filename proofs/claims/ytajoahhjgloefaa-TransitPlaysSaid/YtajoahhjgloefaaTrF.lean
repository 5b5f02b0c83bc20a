/- Nets: Lose. No condition but the net's own. -/
import Derived.Test.YtajoahhjgloefaaTrE
namespace Go.Proofs.Ytajoahhjgloefaa
open Go.RowKit Go.Maps

theorem lose_bad (a k : Int) (h1 : ¬ a = 1) (h2 : ¬ a = 2) (g : Nat) (w : World) : Calls Try.prog 12 #[.pointer (some ⟨g, 0, none⟩), .int .i64 a, .int .u64 k] w fun e w' => e = .returned (.iface 45 (.int .i64 2)) ∧ w = w' := by
  have HB := Lib.hid (pick_bad a k h1 h2 g w)
  clear h1 h2
  go_enter Try.func12, Try.ntmps12
  go_wp2_with fail
  refine HB.out.mono ?_
  rintro e w' ⟨rfl, rfl⟩
  go_wp2_with fail
  go_ret
  exact ⟨rfl, rfl⟩
theorem lose_none {X : Nat → Prop} {w : World} {base g : Nat} {p : Int} {l1 l2 : Ln} {N : Nat} (h : Nt X w base g p l1 l2 N) (i : Bool) (k : Int) (h0 : (sel i l1 l2).L = []) :
    Calls Try.prog 12 #[.pointer (some ⟨g, 0, none⟩), .int .i64 (wayI i), .int .u64 k] w fun e w' => e = .returned (.iface 45 (.int .i64 11)) ∧ w = w' := by
  have HB := Lib.hid (pick_none h i k h0)
  clear h h0
  go_enter Try.func12, Try.ntmps12
  go_wp2_with fail
  refine HB.out.mono ?_
  rintro e w' ⟨rfl, rfl⟩
  go_wp2_with fail
  go_ret
  exact ⟨rfl, rfl⟩
set_option maxHeartbeats 2000000 in
theorem lose_in {X : Nat → Prop} {w : World} {base g : Nat} {p : Int} {l1 l2 : Ln} {N : Nat} (h : Nt X w base g p l1 l2 N) (i : Bool) (k : Int) (hk0 : 0 ≤ k) (hk1 : k < 18446744073709551616) (x : Fm) (hN : N < 1000000)
    (hx : (sel i l1 l2).L[k.toNat % (sel i l1 l2).L.length]? = some x) :
    Calls Try.prog 12 #[.pointer (some ⟨g, 0, none⟩), .int .i64 (wayI i), .int .u64 k] w fun e w' =>
      (p - 1 ≤ (sel i l1 l2).lost x.xs → e = .returned (.iface 45 (.int .i64 10)) ∧ New w w') ∧
      ((sel i l1 l2).lost x.xs < p - 1 → e = .returned .nilIface ∧ ∃ l' : Ln, Nt X w' base g p (put1 i l1 l') (put2 i l2 l') (N + 1) ∧ l'.L = (sel i l1 l2).L.eraseIdx (k.toNat % (sel i l1 l2).L.length) ∧
        (∀ ys, l'.lost ys = if ys = x.xs then (sel i l1 l2).lost x.xs + 1 else (sel i l1 l2).lost ys) ∧ Fr (No g l1 l2) w w' ∧ ∀ k, Lo l' k → Lo (sel i l1 l2) k) := by
  have h0 : 0 < (sel i l1 l2).L.length := by
    rcases Nat.eq_zero_or_pos (sel i l1 l2).L.length with e | e
    · rw [List.eq_nil_of_length_eq_zero e] at hx
      simp at hx
    · exact e
  have HP := Lib.hid (pick_some h i k hk0 hk1 h0)
  have H := Lib.hid h
  have hjl : k.toNat % (sel i l1 l2).L.length < (sel i l1 l2).L.length := Nat.mod_lt _ h0
  clear hk0 hk1 h0 h
  generalize k.toNat % (sel i l1 l2).L.length = j at HP hjl hx ⊢
  have HJ := Lib.hid hjl
  have hxj : (sel i l1 l2).L[j] = x := by rw [List.getElem?_eq_getElem hjl] at hx; exact Option.some.inj hx
  have hxm : x ∈ (sel i l1 l2).L := hxj ▸ List.getElem_mem _
  have hp1 := H.out.p1
  have hp2 := H.out.p2
  clear hx
  go_enter Try.func12, Try.ntmps12
  go_wp2_with fail
  refine HP.out.mono ?_
  rintro e w1 ⟨rfl, hN1⟩
  have HN1 : Hid (New w w1) := Lib.hid hN1
  have H1 := Lib.hid (H.out.new hN1)
  clear HP hN1
  obtain ⟨c0, c1, hL⟩ := H1.out.at i
  have hown := hL.own
  obtain ⟨b, c, hv, hnc, hcm⟩ := own_form hown (by omega)
  have hcell : w1.cell? ⟨b, j, none⟩ = some x.val := by
    rw [hv] at hown
    obtain ⟨g', o', hA, -, -, hq⟩ := (Rd.own hown rfl).out (by omega) (by omega)
    injection hA with hA
    injection hA with e1 e2 e3
    subst e1 e2
    have := hq j x.val (by rw [show (vals (sel i l1 l2).L)[j]? = ((sel i l1 l2).L[j]?).map Fm.val from List.getElem?_map .., List.getElem?_eq_getElem hjl]; exact congrArg (fun y => some (Fm.val y)) hxj)
    rwa [Nat.zero_add] at this
  rw [hv] at c0
  have hRx := (hL.reads x hxm).1
  have HBY := Lib.hid (hL.reads x hxm).2.1
  have hxn := (hL.reads x hxm).2.2
  have hxl : x.xs.length = x.n := by have := hRx.1; rw [u8s_len] at this; omega
  have hko := key_of (xs := x.xs) (by omega)
  have hcv := run_conv (c := x.c) (w := w1) hRx
  have hlow := hL.low x.xs
  have hcnt := hL.cnt x.xs HBY.out
  have hlk : ∀ q, (Instr.lookup 30 (.map (some (sel i l1 l2).b)) (.string (strOfNums x.xs)) false).run Try.prog (w1.drewN q) = .ok (.int .i64 ((sel i l1 l2).lost x.xs)) (w1.drewN q) := fun q => by
    have hM : MapAt (w1.drewN q) Try.prog 9 (sel i l1 l2).b (sel i l1 l2).m (sel i l1 l2).f := hL.map
    have := (hM.look keyS Try.underlying30 (z := .int .i64 0) (by kernel_rfl) hko).2
    rwa [hcnt] at this
  have HM : ∀ q, Hid (MapAt (w1.drewN q) Try.prog 9 (sel i l1 l2).b (sel i l1 l2).m (sel i l1 l2).f) := fun q => Lib.hid hL.map
  have hmN : (sel i l1 l2).m < 1000000 := by
    have := H.out.m1; have := H.out.m2
    cases i
    · show l1.m < _; omega
    · show l2.m < _; omega
  have d0 : w1.cell? ⟨g, 0, none⟩ = some (.int .i64 p) := H1.out.blk.cell 0
  obtain ⟨st, hst⟩ : ∃ st, st = strOfNums x.xs := ⟨_, rfl⟩
  rw [← hst] at hcv hko hlk
  have HKO := Lib.hid hko
  have HLN := Lib.hid hL.len
  have HXJ := Lib.hid hxj
  have HV := Lib.hid hv
  obtain ⟨n, hnl⟩ : ∃ n, n = (sel i l1 l2).L.length := ⟨_, rfl⟩
  rw [← hnl] at c0 hnc
  have hjn : (j : Int) < (n : Int) := by omega
  have hj0 : (0 : Int) ≤ (j : Int) := by omega
  have hlk0 := hlk 0
  obtain ⟨ls, hls⟩ : ∃ ls, ls = (sel i l1 l2).lost x.xs := ⟨_, rfl⟩
  rw [← hls] at hlow hlk hlk0
  have HLS := Lib.hid hls
  have hls0 := hlow.1
  have hls1 := hlow.2
  clear hown hRx hko hst hL hxm hcnt hlow hxj hv hls
  simp only [Fm.val] at hcell
  by_cases hc : p - 1 ≤ ls
  · as_aux_lemma =>
    go_wp2_with fail
    go_quiet (fail)
    go_wp2_with fail
    go_ret
    exact ⟨fun _ => ⟨rfl, New.tr HN1.out (New.dn (New.refl _) _)⟩, fun h => absurd h (by have := HLS.out; omega)⟩
  · go_wp2_with fail
    go_quiet (fail)
    go_wp2_with (at_mapUpdate; refine wpList_mstore (HM _).out keyS Try.underlying30 (by unfold maxLen; omega) rfl (.tmp 46) (.tmp 47) (.tmp 49) rfl rfl (.string st) (.int .i64 (ls + 1)) (key x.xs) rfl rfl HKO.out ?_; intro w2 hM2 hF2; have HM2 := Lib.hid hM2; have HF2 := Lib.hid hF2; clear hM2 hF2)
    obtain ⟨-, -, hL⟩ := H1.out.at i
    have hF2 : Fr (fun k => k = (sel i l1 l2).b) w1 w2 := ⟨HF2.out.os, HF2.out.tape, HF2.out.output, HF2.out.size, HF2.out.block⟩
    have hbg : ¬ g = (sel i l1 l2).b := fun e => H1.out.noG i (.inl e)
    have hob : ∀ k, (sel i l1 l2).v.ownBlock = some k → ¬ k = (sel i l1 l2).b := fun k hk e => own_ne_map hL (e ▸ hk)
    have hO2 := own_fr hL.own hF2 hob
    have hB2 : Blk w2 g 71 (nslots p l1 l2) := H1.out.blk.fr hF2 hbg
    have e0 : w2.cell? ⟨g, off i, none⟩ = some (sel i l1 l2).v := by
      have := (H1.out.at i).1
      exact hF2.cell_some this hbg
    have HD := Lib.hid (drop_any (sel i l1 l2) g (off i) 71 (nslots p l1 l2) w2 base hO2 e0 hB2 (fun e => H1.out.noG i (.inr e)) j hjl HLN.out)
    have HF2' := Lib.hid hF2
    clear hL hF2 hbg hob hO2 hB2 e0 hlk hlk0 hcv
    go_wp2_with fail
    refine HD.out.mono ?_
    rintro e w3 ⟨rfl, v', hO, hB, hF, hv⟩
    have HO := Lib.hid hO
    have HB := Lib.hid hB
    have HF := Lib.hid hF
    have HV' := Lib.hid hv
    clear hO hB hF hv HD
    generalize (sel i l1 l2).L[j].val = vv
    go_wp2_with fail
    go_ret
    refine ⟨fun h => absurd h (by have := HLS.out; omega), fun _ => ⟨rfl, (sel i l1 l2).less v' j (putF (sel i l1 l2).f (key x.xs) (some (.int .i64 (ls + 1)))) ((sel i l1 l2).m + 1) (fun ys => if ys = x.xs then ls + 1 else (sel i l1 l2).lost ys), ?_, rfl, fun ys => ?_, ?_, ?_⟩⟩
    · obtain ⟨-, -, hL⟩ := H1.out.at i
      have hS : ∀ k, (k = g ∨ Lo (sel i l1 l2) k) → ¬ X k := fun k hk hx => H1.out.not (No.sel hk) hx
      have hFF : Fr (fun k => k = g ∨ Lo (sel i l1 l2) k) w1 w3 := (HF2'.out.mono fun k _ hk => .inr (.inl hk)).trans (HF.out.mono fun k _ hk => hk.imp id .inr)
      have hMb : MapAt w3 Try.prog 9 (sel i l1 l2).b ((sel i l1 l2).m + 1) (putF (sel i l1 l2).f (key x.xs) (some (.int .i64 (ls + 1)))) := by
        refine HM2.out.fr HF.out ?_
        rintro (e | e)
        · exact H1.out.noG i (.inl e.symm)
        · exact own_ne_map hL e
      refine H1.out.put i ⟨?_, hMb, hL.lb, ?_, ?_, lost_some hL.cnt x.xs HBY.out (ls + 1), ?_⟩ HB.out rfl hFF (fun k hk => hk) ?_ (fun k hk => hk) (fun k hk => .inl hk) ?_ (Nat.le_succ _)
      · show w3.ownsRow base 33 1 v' ((sel i l1 l2).L.eraseIdx j).length (vals ((sel i l1 l2).L.eraseIdx j))
        rw [List.length_eraseIdx_of_lt HJ.out]
        exact HO.out
      · intro y hy
        obtain ⟨r1, r2⟩ := hL.reads y (List.mem_of_mem_eraseIdx hy)
        exact ⟨r1.fr hFF (fun k hk hs => hS k hs hk), r2⟩
      · show ((sel i l1 l2).L.eraseIdx j).length ≤ 256
        rw [List.length_eraseIdx_of_lt HJ.out]
        have := HLN.out; omega
      · intro ys
        have := hL.low ys
        show 0 ≤ (if ys = x.xs then ls + 1 else (sel i l1 l2).lost ys) ∧ (if ys = x.xs then ls + 1 else (sel i l1 l2).lost ys) < 64
        split <;> omega
      · rintro k (e | e)
        · exact .inl (.inl e)
        · exact .inl (.inr (by rw [← HV'.out]; exact e))
      · show (sel i l1 l2).m + 1 ≤ N + 1
        have := H1.out.m1; have := H1.out.m2
        cases i
        · show l1.m + 1 ≤ _; omega
        · show l2.m + 1 ≤ _; omega
    · rw [← HLS.out]; rfl
    · exact (HN1.out.toFr _).trans ((HF2'.out.mono fun k _ hk => No.sel (i := i) (.inr (.inl hk))).trans (HF.out.mono fun k _ hk => No.sel (hk.imp id .inr)))
    · rintro k (e | e)
      · exact .inl e
      · exact .inr (by rw [← HV'.out]; exact e)
end Go.Proofs.Ytajoahhjgloefaa
