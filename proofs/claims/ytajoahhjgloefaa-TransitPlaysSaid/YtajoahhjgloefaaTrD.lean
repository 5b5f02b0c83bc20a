/- Lanes: slices.Delete, add, drop. No condition but the lane's own. -/
import Derived.Test.YtajoahhjgloefaaTrC
import Derived.Test.YtajoahhjgloefaaLast
namespace Go.Proofs.Ytajoahhjgloefaa
open Go.RowKit Go.Maps

theorem rd_szs {p : Nat → Prop} {w : World} {s n : Nat} {A : Option Addr} {xs : List Value} (h : Rd p w s A n xs) : Rd (fun b => b < w.heap.size) w s A n xs :=
  ⟨h.1, fun hn => by obtain ⟨ad, e, _, hb, hc⟩ := h.2 hn; exact ⟨ad, e, hb, hb, hc⟩⟩
theorem own_isT {w : World} {base e s n k : Nat} {v : Value} {xs : List Value} (h : w.ownsRow base e s v n xs) (hk : v.ownBlock = some k) : IsT e w k := by
  rcases h.2 with ⟨rfl, _⟩ | ⟨g', cap, cur, rfl, _, hh, _⟩
  · simp [Value.ownBlock] at hk
  · have : g' = k := by simpa [Value.ownBlock] using hk
    subst this
    exact ⟨_, _, hh⟩
theorem step_bs1v {P : Program} {ops : Array Oper} {o : Oper} {a : Act} {K : Act → World → Prop} {Q : Exit → Act → World → Prop} {w : World} {F : Prop} {t e : TypeId} {bytes : Nat} (E : ElemOf P t e 1 bytes) (hw : Region.wanted o (yielded ops a.tmps) = true) (x : Operand)
    (ho : o.op = .buildSlice t 1 #[(0, x)]) (v : Value) (hx : a.eval x = v) (hv : v.cells.size = 1)
    (h : ∀ g w', Blk w' g e v.cells → New w w' → w.heap.size ≤ g → K (a.put o.dst (.slice (some ⟨g, 0, none⟩) 1 1)) w') : if Region.wanted o (yielded ops a.tmps) = true then Oper.wp P o a w K Q else F := by
  rw [if_pos hw]
  unfold Oper.wp execOp
  simp only [ho, Sem.run_bind, List.map_toArray, List.map_cons, List.map_nil, hx, run_bs1 E (by decide) v hv w, Result.andThen_ok]
  exact h _ _ (Blk.new _ _ _) (New.al (New.refl _) _) (Nat.le_refl _)

set_option maxRecDepth 100000 in
theorem add_full (l : Ln) (g o : Nat) (v : Value) (w : World) (base : Nat) (hO : w.ownsRow base 33 1 l.v l.L.length (vals l.L)) (hc : w.cell? ⟨g, o, none⟩ = some l.v) (h : 256 ≤ l.L.length) :
    Calls Try.prog 33 #[.pointer (some ⟨g, o, none⟩), v] w fun e w' => e = .returned (.iface 45 (.int .i64 12)) ∧ w = w' := by
  obtain ⟨A, c, hv, hnc, hcm, -, -⟩ := own_shape hO
  rw [hv] at hc
  generalize l.L.length = n at *
  clear hO hv
  go_enter Try.func33, Try.ntmps33
  go_wp2_with fail
  go_ret
  exact ⟨rfl, rfl⟩

set_option maxHeartbeats 4000000 in
set_option maxRecDepth 100000 in
theorem add_any (l : Ln) (g o T : Nat) (cs : Array Value) (p : Nat → Prop) (Ax : Option Addr) (nx cx : Nat) (xs : List Int) (w : World) (base : Nat) (hO : w.ownsRow base 33 1 l.v l.L.length (vals l.L)) (hbw : base ≤ w.heap.size)
    (hc : w.cell? ⟨g, o, none⟩ = some l.v) (hB : Blk w g T cs) (hgo : ¬ l.v.ownBlock = some g) (h : l.L.length < 256) (hR : Rd p w 1 Ax nx (u8s xs)) (hn : nx ≤ 1000) :
    Calls Try.prog 33 #[.pointer (some ⟨g, o, none⟩), .slice Ax nx cx] w fun e w' => e = .returned .nilIface ∧ ∃ v' x, x.xs = xs ∧ x.n = nx ∧
      w'.ownsRow base 33 1 v' (l.L.length + 1) (vals (l.L ++ [x])) ∧ Rd (fun k => w.heap.size ≤ k ∧ IsT 5 w' k) w' 1 x.A x.n (u8s xs) ∧ Blk w' g T (cs.setIfInBounds o v') ∧
      Fr (fun k => k = g ∨ l.v.ownBlock = some k) w w' ∧ ∀ k, v'.ownBlock = some k → l.v.ownBlock = some k ∨ w.heap.size ≤ k := by
  obtain ⟨A, c, hv, hnc, hcm, -, -⟩ := own_shape hO
  obtain ⟨v, L, b, m, f, ls⟩ := l
  dsimp only at *
  subst hv
  generalize hnL : L.length = n at *
  have HO := Lib.hid hO
  have HC0 := Lib.hid hc
  have HBG := Lib.hid hB
  have HGO : Hid (¬ (Value.slice A n c).ownBlock = some g) := Lib.hid hgo
  have HRX := Lib.hid hR
  have HL := Lib.hid hnL
  clear hO hB hgo hR hnL
  go_enter Try.func33, Try.ntmps33
  go_wp2_with fail
  have hSN : ∀ w', New w w' → (fun w' => w'.cell? ⟨g, o, none⟩ = some (.slice A n c)) w' := fun w' hN => hN.cell_ HC0.out
  refine wp_region_T (fun w' => w'.cell? ⟨g, o, none⟩ = some (.slice A n c)) 11 (by kernel_rfl) ?_

  refine wpAnyT_take (i := 0) (oi := ⟨_, _, _, _, _, _⟩) (v := .pointer (some ⟨g, o, none⟩)) rfl (by kernel_rfl) (by kernel_rfl) (by kernel_rfl) (by kernel_rfl) (fun _ _ _ h => h) (Or.inl ⟨by rfl, fun w hSw => by go_simp⟩) (hSN _ (by repeat (first | with_reducible exact New.refl _ | with_reducible assumption | with_reducible refine New.dr ?_ | with_reducible refine New.al ?_ _) : New w _)) ?_
  try simp only [Act.put, List.setIfInBounds_toArray, List.set_cons_zero, List.set_cons_succ]
  refine wpAnyT_take (i := 1) (oi := ⟨_, _, _, _, _, _⟩) (v := .pointer (some ⟨g, o, none⟩)) rfl (by kernel_rfl) (by kernel_rfl) (by kernel_rfl) (by kernel_rfl) (fun _ _ _ h => h) (Or.inl ⟨by rfl, fun w hSw => by go_simp⟩) (hSN _ (by repeat (first | with_reducible exact New.refl _ | with_reducible assumption | with_reducible refine New.dr ?_ | with_reducible refine New.al ?_ _) : New w _)) ?_
  try simp only [Act.put, List.setIfInBounds_toArray, List.set_cons_zero, List.set_cons_succ]
  refine wpAnyT_take (i := 2) (oi := ⟨_, _, _, _, _, _⟩) (v := .pointer (some ⟨g, o, none⟩)) rfl (by kernel_rfl) (by kernel_rfl) (by kernel_rfl) (by kernel_rfl) (fun _ _ _ h => h) (Or.inl ⟨by rfl, fun w hSw => by go_simp⟩) (hSN _ (by repeat (first | with_reducible exact New.refl _ | with_reducible assumption | with_reducible refine New.dr ?_ | with_reducible refine New.al ?_ _) : New w _)) ?_
  try simp only [Act.put, List.setIfInBounds_toArray, List.set_cons_zero, List.set_cons_succ]
  refine wpAnyT_take (i := 3) (oi := ⟨_, _, _, _, _, _⟩) (v := .pointer (some ⟨g, o, none⟩)) rfl (by kernel_rfl) (by kernel_rfl) (by kernel_rfl) (by kernel_rfl) (fun _ _ _ h => h) (Or.inl ⟨by rfl, fun w hSw => by go_simp⟩) (hSN _ (by repeat (first | with_reducible exact New.refl _ | with_reducible assumption | with_reducible refine New.dr ?_ | with_reducible refine New.al ?_ _) : New w _)) ?_
  try simp only [Act.put, List.setIfInBounds_toArray, List.set_cons_zero, List.set_cons_succ]
  refine wpAnyT_take (i := 4) (oi := ⟨_, _, _, _, _, _⟩) (v := .slice A n c) rfl (by kernel_rfl) (by kernel_rfl) (by kernel_rfl) (by kernel_rfl) (fun _ _ _ h => h) (Or.inl ⟨by rfl, fun w hSw => by go_simp⟩) (hSN _ (by repeat (first | with_reducible exact New.refl _ | with_reducible assumption | with_reducible refine New.dr ?_ | with_reducible refine New.al ?_ _) : New w _)) ?_
  try simp only [Act.put, List.setIfInBounds_toArray, List.set_cons_zero, List.set_cons_succ]
  refine wpAnyT_take (i := 5) (oi := ⟨_, _, _, _, _, _⟩) (v := .slice Ax nx cx) rfl (by kernel_rfl) (by kernel_rfl) (by kernel_rfl) (by kernel_rfl) (fun _ _ _ h => h) (Or.inl ⟨by rfl, fun w hSw => by go_simp⟩) (hSN _ (by repeat (first | with_reducible exact New.refl _ | with_reducible assumption | with_reducible refine New.dr ?_ | with_reducible refine New.al ?_ _) : New w _)) ?_
  try simp only [Act.put, List.setIfInBounds_toArray, List.set_cons_zero, List.set_cons_succ]
  refine wpAnyT_ready (rs := [6]) (by kernel_rfl) (by simp) (AllT.cons (i := 6) (o := ⟨_, _, _, _, _, _⟩) rfl (fun K hK => ?_) AllT.nil)
  go_simp
  refine (bclone_any Ax nx cx xs _ (rd_szs ((by repeat (first | with_reducible exact New.refl _ | with_reducible assumption | with_reducible refine New.dr ?_ | with_reducible refine New.al ?_ _) : New w _).rd HRX.out)) (by omega)).mono ?_
  rintro e w2 ⟨⟨A2, c2, rfl, hO2⟩, hN2'⟩
  have hle : ∀ k, (Value.slice A2 nx c2).ownBlock = some k → w.heap.size ≤ k := fun k hk => Nat.le_trans (Below.size (by repeat (first | with_reducible exact New.refl _ | with_reducible assumption | with_reducible refine New.dr ?_ | with_reducible refine New.al ?_ _) : New w _)) (own_lt hO2 k hk).1
  have hN2 : New w w2 := New.tr ((by repeat (first | with_reducible exact New.refl _ | with_reducible assumption | with_reducible refine New.dr ?_ | with_reducible refine New.al ?_ _) : New w _)) hN2'
  try go_simp
  try simp only [Act.put, List.setIfInBounds_toArray, List.set_cons_zero, List.set_cons_succ]
  refine hK.out _ _ (fun _ => hSN _ (by repeat (first | with_reducible exact New.refl _ | with_reducible assumption | with_reducible refine New.dr ?_ | with_reducible refine New.al ?_ _) : New w _)) ?_
  refine wpAnyT_ready (rs := [7]) (by kernel_rfl) (by simp) (AllT.cons (i := 7) (o := ⟨_, _, _, _, _, _⟩) rfl (fun K hK => ?_) AllT.nil)
  refine step_bs1v elL (by rfl) (.tmp 18) rfl (.slice A2 nx c2) (by rfl) rfl ?_
  intro gb w3 hB3 hN3' hl3
  have hN3 : New w w3 := New.tr ((by repeat (first | with_reducible exact New.refl _ | with_reducible assumption | with_reducible refine New.dr ?_ | with_reducible refine New.al ?_ _) : New w _)) hN3'
  have hO3 := New.own hN3' hO2
  try simp only [Act.put, List.setIfInBounds_toArray, List.set_cons_zero, List.set_cons_succ]
  refine hK.out _ _ (fun _ => hSN _ (by repeat (first | with_reducible exact New.refl _ | with_reducible assumption | with_reducible refine New.dr ?_ | with_reducible refine New.al ?_ _) : New w _)) ?_
  refine wpAnyT_ready (rs := [8]) (by kernel_rfl) (by simp) (AllT.cons (i := 8) (o := ⟨_, _, _, _, _, _⟩) rfl (fun K hK => ?_) AllT.nil)
  refine step_app elL _ (by rfl) (.tmp 16) (.tmp 19) (by rfl) base (.slice A n c) n (vals L) (by rfl) ((by repeat (first | with_reducible exact New.refl _ | with_reducible assumption | with_reducible refine New.dr ?_ | with_reducible refine New.al ?_ _) : New w _).own HO.out) (some ⟨gb, 0, none⟩) 1 1 [.slice A2 nx c2] (by rfl) (Rd.ofBlk (p := fun _ => True) (cs := (Value.slice A2 nx c2).cells) hB3 1 1 rfl trivial) (by simp [Value.oneCell']) (by unfold maxLen; omega) (by omega) (by have := hN3.size; omega) ?_
  intro A4 d4 w5 hO5 hF5 hA5
  have hN4 := hN3
  have c5 : w5.cell? ⟨g, o, none⟩ = some (.slice A n c) := hF5.cell_some (hN4.cell_ HC0.out) HGO.out
  have hB5 : Blk w5 g T cs := (hN4.blk HBG.out).fr (S := fun k => (Value.slice A n c).ownBlock = some k) hF5 HGO.out
  try simp only [Act.put, List.setIfInBounds_toArray, List.set_cons_zero, List.set_cons_succ]
  refine hK.out _ _ (fun _ => c5) ?_
  refine wpAnyT_ready (rs := [9]) (by kernel_rfl) (by simp) (AllT.cons (i := 9) (o := ⟨_, _, _, _, _, _⟩) rfl (fun K hK => ?_) AllT.nil)
  go_simp
  try simp only [Act.put, List.setIfInBounds_toArray, List.set_cons_zero, List.set_cons_succ]
  refine hK.out _ _ (fun _ => c5) ?_
  refine wpAnyT_take (i := 10) (oi := ⟨_, _, _, _, _, _⟩) (v := .pointer (some ⟨g, o, none⟩)) rfl (by kernel_rfl) (by kernel_rfl) (by kernel_rfl) (by kernel_rfl) (fun _ _ _ h => h) (Or.inl ⟨by rfl, fun w hSw => by go_simp⟩) (c5) ?_
  try simp only [Act.put, List.setIfInBounds_toArray, List.set_cons_zero, List.set_cons_succ]
  refine wpAnyT_ready (rs := [11]) (by kernel_rfl) (by simp) (AllT.cons (i := 11) (o := ⟨_, _, _, _, _, _⟩) rfl (fun K hK => ?_) AllT.nil)
  have q5 := hB5.frozen o
  have HF5 := Lib.hid hF5
  have HO5 := Lib.hid hO5
  have HA5 := Lib.hid hA5
  have HB5 := Lib.hid hB5
  have HO3 := Lib.hid hO3
  have HN4 := Lib.hid hN4
  clear hF5 hO5 hA5 hB5 hO3 hO2 hB3
  go_simp
  try simp only [Act.put, List.setIfInBounds_toArray, List.set_cons_zero, List.set_cons_succ]
  refine hK.out _ _ (fun h => absurd rfl h) ?_
  refine wpAnyT_done (by kernel_rfl) ?_ _
  go_wp2_with fail
  go_ret
  have hFs : Fr (fun k => k = g ∨ (Value.slice A n c).ownBlock = some k) w5 (w5.setCell ⟨g, o, none⟩ (.slice A4 (n + 1) d4)) := (Fr.refl _ w5).setCell (p := ⟨g, o, none⟩) (fun _ => .inl rfl) _
  have hglt := HBG.out.lt
  have hFg : Fr (fun k => k = g) w5 (w5.setCell ⟨g, o, none⟩ (.slice A4 (n + 1) d4)) := (Fr.refl (fun k => k = g) w5).setCell (p := ⟨g, o, none⟩) (fun _ => rfl) _
  have hF35 : Fr (fun k => k = g ∨ (Value.slice A n c).ownBlock = some k) w3 (w5.setCell ⟨g, o, none⟩ (.slice A4 (n + 1) d4)) := (HF5.out.mono fun k _ hk => .inr hk).trans hFs
  have hout : ∀ k, (Value.slice A2 nx c2).ownBlock = some k → ¬ (k = g ∨ (Value.slice A n c).ownBlock = some k) := by
    rintro k hk (e | e)
    · have := hle k hk; omega
    · have := hle k hk; have := (own_lt HO.out k e).2; omega
  refine ⟨rfl, .slice A4 (n + 1) d4, ⟨A2, nx, c2, xs⟩, rfl, rfl, ?_, ?_, HB5.out.set o _, (HN4.out.toFr _).trans hF35, ?_⟩
  · have h := own_fr HO5.out hFg (fun k hk e => by
      rcases HA5.out k hk with h | h
      · exact HGO.out (e ▸ h)
      · have := HN4.out.size; omega)
    have ev : vals (L ++ [⟨A2, nx, c2, xs⟩]) = vals L ++ [.slice A2 nx c2] := by simp [vals, Fm.val]
    rw [ev]
    exact h
  · exact ((Rd.own HO3.out rfl).fr hF35 hout).imp fun k hk => ⟨hle k hk, (own_isT HO3.out hk).fr hF35 (hout k hk)⟩
  · intro k hk
    rcases HA5.out k hk with h | h
    · exact .inl h
    · exact .inr (Nat.le_trans HN4.out.size h)

theorem del_raw (base b n c i j : Nat) (xs : List Value) (w : World) (hO : w.ownsRow base 33 1 (.slice (some ⟨b, 0, none⟩) n c) n xs) (hij : i < j) (hj : j ≤ n) (hnc : n ≤ c) (hcm : c ≤ maxLen) (h1 : ∀ u ∈ xs, u.oneCell' = true) :
    Calls Try.prog 41 #[.slice (some ⟨b, 0, none⟩) n c, .int .i64 i, .int .i64 j] w fun e w' => e = .returned (.slice (some ⟨b, 0, none⟩) (i + (n - j)) c) ∧
      w'.ownsRow base 33 1 (.slice (some ⟨b, 0, none⟩) (i + (n - j)) c) (i + (n - j)) (xs.take i ++ xs.drop j) ∧ Fr (fun k => k = b) w w' := by
  unfold maxLen at hcm
  have hic : i ≤ c := by omega
  have hjc : j ≤ c := by omega
  have hcut : w.drew.ownsRow base 33 1 (.slice (some ⟨b, 0, none⟩) i c) i (xs.take (i * 1)) := own_cut hO (by omega)
  have hsrc : Rd (fun _ => True) w.drew 1 (if c = j then some ⟨b, 0, none⟩ else some ⟨b, j * 1, none⟩) (n - j) (xs.drop (j * 1)) := by
    have := ((Rd.own hO rfl).imp (q := fun _ => True) (fun _ _ => trivial)).drop (cap := c) hj hnc
    rw [Option.map_some, add_own] at this
    exact this
  have hne : ((i : Int) == (j : Int)) = false := by simp; omega
  have HC := Lib.hid hcut
  have HS := Lib.hid hsrc
  have HO := Lib.hid hO
  have HI := Lib.hid h1
  clear hcut hsrc hO h1
  go_enter Try.func41, Try.ntmps41
  go_wp2_with fail
  go_region_law (refine step_app_fits elL rfl (.tmp 22) (.tmp 25) rfl (base := base) (g := b) (n := i) (cap := c) (xs := xs.take (i * 1)) (by simp [Act.eval, Act.put]) HC.out _ (n - j) (c - j) (xs.drop (j * 1)) (by simp [Act.eval, Act.put]) HS.out (fun u hu => HI.out u (List.mem_of_mem_drop hu)) (by omega) ?_; intro w2 hO2 hF2)
  obtain ⟨w3, hcl, hO3, hF3⟩ := run_clear_own (P := Try.prog) (size := 1) Try.underlying50 (z := .slice none 0 0) (fun _ => by kernel_rfl) rfl (by simp [Value.cells, Value.oneCell']) 0 hO2 (n - (i + (n - j))) (c - (i + (n - j))) (i + (n - j)) (by simp) (by omega)
  clear hO2
  simp only [Nat.mul_one] at hO3
  have HO3 := Lib.hid hO3
  clear hO3
  go_wp2_with fail
  all_goals go_ret
  · subst_vars; exact ⟨rfl, HO3.out, Fr.ofDrew (hF2.trans hF3)⟩
  · exact ⟨rfl, HO3.out, Fr.ofDrew (hF2.trans hF3)⟩
theorem vals_del (L : List Fm) (i : Nat) : (vals L).take i ++ (vals L).drop (i + 1) = vals (L.eraseIdx i) := by
  unfold vals
  rw [List.eraseIdx_eq_take_drop_succ, List.map_append, List.map_take, List.map_drop]
theorem del_any (base b n c i : Nat) (L : List Fm) (w : World) (hO : w.ownsRow base 33 1 (.slice (some ⟨b, 0, none⟩) n c) n (vals L)) (hi : i < n) (hnc : n ≤ c) (hcm : c ≤ maxLen) :
    Calls Try.prog 41 #[.slice (some ⟨b, 0, none⟩) n c, .int .i64 i, .int .i64 ((i : Int) + 1)] w fun e w' => e = .returned (.slice (some ⟨b, 0, none⟩) (n - 1) c) ∧
      w'.ownsRow base 33 1 (.slice (some ⟨b, 0, none⟩) (n - 1) c) (n - 1) (vals (L.eraseIdx i)) ∧ Fr (fun k => k = b) w w' := by
  have h := del_raw base b n c i (i + 1) (vals L) w hO (by omega) (by omega) hnc hcm (vals_one L)
  have e1 : i + (n - (i + 1)) = n - 1 := by omega
  rw [e1, vals_del] at h
  exact h

set_option maxRecDepth 100000 in
theorem drop_any (l : Ln) (g o T : Nat) (cs : Array Value) (w : World) (base : Nat) (hO : w.ownsRow base 33 1 l.v l.L.length (vals l.L)) (hc : w.cell? ⟨g, o, none⟩ = some l.v) (hB : Blk w g T cs) (hgo : ¬ l.v.ownBlock = some g)
    (i : Nat) (hi : i < l.L.length) (h256 : l.L.length ≤ 256) :
    Calls Try.prog 32 #[.pointer (some ⟨g, o, none⟩), .int .i64 i] w fun e w' => e = .returned (l.L[i]).val ∧ ∃ v', w'.ownsRow base 33 1 v' (l.L.length - 1) (vals (l.L.eraseIdx i)) ∧ Blk w' g T (cs.setIfInBounds o v') ∧
      Fr (fun k => k = g ∨ l.v.ownBlock = some k) w w' ∧ v'.ownBlock = l.v.ownBlock := by
  obtain ⟨b, c, hv, hnc, hcm⟩ := own_form hO (by omega)
  obtain ⟨v, L, bm, m, f, ls⟩ := l
  dsimp only at hv hO hc hgo hi h256 hnc ⊢
  subst hv
  have hcell : w.cell? ⟨b, i, none⟩ = some (L[i]).val := by
    obtain ⟨g', o', hA, -, -, hx⟩ := (Rd.own hO rfl).out (by omega) (by omega)
    injection hA with hA
    injection hA with h1 h2 h3
    subst h1 h2
    have := hx i (L[i]).val (by simp [vals, hi])
    rwa [Nat.zero_add] at this
  generalize hx : L[i] = x at hcell ⊢
  obtain ⟨xA, xn, xc, xs⟩ := x
  clear hx
  simp only [Fm.val] at hcell ⊢
  have hb2 : ¬ b = g := fun e => hgo (by simp [Value.ownBlock, e])
  generalize hnL : L.length = n at *
  have HO := Lib.hid hO
  have HBG := Lib.hid hB
  have HI : Hid (i < n) := Lib.hid hi
  have hki : (0 : Int) ≤ (i : Int) := by omega
  have hkn : (i : Int) < (n : Int) := by omega
  clear hO hB hgo hnL
  go_enter Try.func32, Try.ntmps32
  go_wp2_with fail
  refine (del_any base b n c i L w HO.out HI.out hnc hcm).mono ?_
  rintro e w2 ⟨rfl, hO2, hF2⟩
  have hB2 : Blk w2 g T cs := HBG.out.fr (S := fun k => k = b) hF2 (fun e => hb2 e.symm)
  have c2 : w2.cell? ⟨g, o, none⟩ = some (.slice (some ⟨b, 0, none⟩) n c) := hF2.cell_some hc (fun e => hb2 e.symm)
  have q2 := hB2.frozen o
  have HO2 := Lib.hid hO2
  have HF2 := Lib.hid hF2
  have HB2 := Lib.hid hB2
  clear hO2 hF2 hB2
  go_wp2_with fail
  go_ret
  refine ⟨rfl, .slice (some ⟨b, 0, none⟩) (n - 1) c, ?_, HB2.out.set o _, ?_, rfl⟩
  · exact own_fr HO2.out ((Fr.refl (fun k => k = g) w2).setCell (p := ⟨g, o, none⟩) (fun _ => rfl) _) (fun k hk e => by simp [Value.ownBlock] at hk; omega)
  · exact (HF2.out.mono fun k _ hk => .inr (by simp [Value.ownBlock, hk])).trans ((Fr.refl _ w2).setCell (p := ⟨g, o, none⟩) (fun _ => .inl rfl) _)
end Go.Proofs.Ytajoahhjgloefaa
