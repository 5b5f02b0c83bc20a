/- Nets: Send, Take. No condition but the net's own. -/
import Derived.Test.YtajoahhjgloefaaTrD
namespace Go.Proofs.Ytajoahhjgloefaa
open Go.RowKit Go.Maps

/-- The slots of a net's block. -/
def nslots (p : Int) (l1 l2 : Ln) : Array Value := #[.int .i64 p, l1.v, .map (some l1.b), l2.v, .map (some l2.b)]
theorem Nt.put {X X' : Nat → Prop} {w w' : World} {base g : Nat} {p : Int} {l1 l2 l' : Ln} {N N' : Nat} {S : Nat → Prop} (h : Nt X w base g p l1 l2 N) (i : Bool) (hl : LnIn X' w' base l') (hB : Blk w' g 71 ((nslots p l1 l2).setIfInBounds (off i) l'.v))
    (hb : l'.b = (sel i l1 l2).b) (hF : Fr S w w') (hS : ∀ k, S k → k = g ∨ Lo (sel i l1 l2) k) (ho : ∀ k, Lo l' k → Lo (sel i l1 l2) k ∨ w.heap.size ≤ k)
    (hX : ∀ k, X k → X' k) (hX' : ∀ k, X' k → X k ∨ (w.heap.size ≤ k ∧ IsT 5 w' k)) (hm : l'.m ≤ N') (hN : N ≤ N') : Nt X' w' base g p (put1 i l1 l') (put2 i l2 l') N' := by
  have hgs : base ≤ w.heap.size := Nat.le_of_lt (Nat.lt_of_le_of_lt h.gb h.blk.lt)
  have hno : ∀ k, S k → No g l1 l2 k := by
    intro k hk
    rcases hS k hk with e | e
    · exact .inl e
    · cases i
      · exact .inr (.inl e)
      · exact .inr (.inr e)
  have hxs : ∀ k, X' k → base ≤ k ∧ IsT 5 w' k := by
    intro k hk
    rcases hX' k hk with e | ⟨e, t⟩
    · exact ⟨(h.xs k e).1, (h.xs k e).2.fr hF (fun hs => h.not (hno k hs) e)⟩
    · exact ⟨by omega, t⟩
  have hXS : ∀ k, S k → ¬ X k := fun k hk hx => h.not (hno k hk) hx
  cases i
  · have h2 : LnIn X' w' base l2 := (h.two.fr hF (fun k hk hl2 => by
      rcases hS k hk with e | e
      · subst e; exact h.two.blk h.blk hl2
      · exact h.apart k e hl2) hXS).imp hX
    refine ⟨?_, h.gb, h.p1, h.p2, hl, h2, hm, Nat.le_trans h.m2 hN, ?_, hxs⟩
    · have e : (nslots p l1 l2).setIfInBounds (off false) l'.v = #[.int .i64 p, l'.v, .map (some l'.b), l2.v, .map (some l2.b)] := by rw [hb]; rfl
      rw [e] at hB
      exact hB
    · intro k hk hk2
      rcases ho k hk with e | e
      · exact h.apart k e hk2
      · have := (h.two.ours hk2).2; omega
  · have h1 : LnIn X' w' base l1 := (h.one.fr hF (fun k hk hl1 => by
      rcases hS k hk with e | e
      · subst e; exact h.one.blk h.blk hl1
      · exact h.apart k hl1 e) hXS).imp hX
    refine ⟨?_, h.gb, h.p1, h.p2, h1, hl, Nat.le_trans h.m1 hN, hm, ?_, hxs⟩
    · have e : (nslots p l1 l2).setIfInBounds (off true) l'.v = #[.int .i64 p, l1.v, .map (some l1.b), l'.v, .map (some l'.b)] := by rw [hb]; rfl
      rw [e] at hB
      exact hB
    · intro k hk hk2
      rcases ho k hk2 with e | e
      · exact h.apart k hk e
      · have := (h.one.ours hk).2; omega
theorem Nt.noG {X : Nat → Prop} {w : World} {base g : Nat} {p : Int} {l1 l2 : Ln} {N : Nat} (h : Nt X w base g p l1 l2 N) (i : Bool) : ¬ Lo (sel i l1 l2) g := (h.at i).2.2.blk h.blk
theorem Nt.base_ {X : Nat → Prop} {w : World} {base g : Nat} {p : Int} {l1 l2 : Ln} {N : Nat} (h : Nt X w base g p l1 l2 N) : base ≤ w.heap.size := Nat.le_of_lt (Nat.lt_of_le_of_lt h.gb h.blk.lt)
theorem No.sel {g : Nat} {l1 l2 : Ln} {i : Bool} {k : Nat} (h : k = g ∨ Lo (sel i l1 l2) k) : No g l1 l2 k := by
  rcases h with e | e
  · exact .inl e
  · cases i
    · exact .inr (.inl e)
    · exact .inr (.inr e)

theorem own_ne_map {X : Nat → Prop} {w : World} {base : Nat} {l : Ln} (h : LnIn X w base l) (e : l.v.ownBlock = some l.b) : False := by
  obtain ⟨D, ⟨es, clock, hx, _⟩, _⟩ := h.map
  obtain ⟨cs, fz, hb⟩ := own_isT h.own e
  rw [hx] at hb
  cases hb

theorem send_bad (a : Int) (h1 : ¬ a = 1) (h2 : ¬ a = 2) (g : Nat) (v : Value) (w : World) : Calls Try.prog 16 #[.pointer (some ⟨g, 0, none⟩), .int .i64 a, v] w fun e w' => e = .returned (.iface 45 (.int .i64 2)) ∧ w = w' := by
  have HB := Lib.hid (lane_bad a h1 h2 g w)
  clear h1 h2
  go_enter Try.func16, Try.ntmps16
  go_wp2_with fail
  refine HB.out.mono ?_
  rintro e w' ⟨rfl, rfl⟩
  go_wp2_with fail
  go_ret
  exact ⟨rfl, rfl⟩
theorem send_full {X : Nat → Prop} {w : World} {base g : Nat} {p : Int} {l1 l2 : Ln} {N : Nat} (h : Nt X w base g p l1 l2 N) (i : Bool) (v : Value) (hl : 256 ≤ (sel i l1 l2).L.length) :
    Calls Try.prog 16 #[.pointer (some ⟨g, 0, none⟩), .int .i64 (wayI i), v] w fun e w' => e = .returned (.iface 45 (.int .i64 12)) ∧ w = w' := by
  obtain ⟨c0, -, hL⟩ := h.at i
  have HA := Lib.hid (add_full (sel i l1 l2) g (off i) v w base hL.own c0 hl)
  clear h c0 hL hl
  go_enter Try.func16, Try.ntmps16
  go_wp2_with fail
  refine (lane_in i g w).mono ?_
  rintro e w' ⟨rfl, rfl⟩
  go_wp2_with fail
  refine HA.out.mono ?_
  rintro e w' ⟨rfl, rfl⟩
  go_wp2_with fail
  go_ret
  exact ⟨rfl, rfl⟩
theorem send_in {X q : Nat → Prop} {w : World} {base g : Nat} {p : Int} {l1 l2 : Ln} {N : Nat} (h : Nt X w base g p l1 l2 N) (i : Bool) (A : Option Addr) (n c : Nat) (xs : List Int) (hR : Rd q w 1 A n (u8s xs)) (hb : Byt xs) (hn : n ≤ 1000) (hl : (sel i l1 l2).L.length < 256) :
    Calls Try.prog 16 #[.pointer (some ⟨g, 0, none⟩), .int .i64 (wayI i), .slice A n c] w fun e w' => e = .returned .nilIface ∧ ∃ (X' : Nat → Prop) (l' : Ln), Nt X' w' base g p (put1 i l1 l') (put2 i l2 l') N ∧
      l'.L.map Fm.xs = (sel i l1 l2).L.map Fm.xs ++ [xs] ∧ l'.lost = (sel i l1 l2).lost ∧ Fr (No g l1 l2) w w' ∧ (∀ k, X' k → X k ∨ w.heap.size ≤ k) ∧ ∀ k, Lo l' k → Lo (sel i l1 l2) k ∨ w.heap.size ≤ k := by
  obtain ⟨c0, -, hL⟩ := h.at i
  have HA := Lib.hid (add_any (sel i l1 l2) g (off i) 71 (nslots p l1 l2) q A n c xs w base hL.own h.base_ c0 h.blk (fun e => h.noG i (.inr e)) hl hR hn)
  have H := Lib.hid h
  have HBY := Lib.hid hb
  have HLL := Lib.hid hl
  clear h c0 hL hl hR hb
  go_enter Try.func16, Try.ntmps16
  go_wp2_with fail
  refine (lane_in i g w).mono ?_
  rintro e w' ⟨rfl, rfl⟩
  go_wp2_with fail
  refine HA.out.mono ?_
  rintro e w2 ⟨rfl, v', x, rfl, rfl, hO, hRx, hB, hF, hv⟩
  have HO := Lib.hid hO
  have HRx := Lib.hid hRx
  have HB := Lib.hid hB
  have HF := Lib.hid hF
  have HV := Lib.hid hv
  clear hO hRx hB hF hv
  go_wp2_with fail
  go_ret
  obtain ⟨-, -, hL⟩ := H.out.at i
  have hS : ∀ k, (k = g ∨ (sel i l1 l2).v.ownBlock = some k) → k = g ∨ Lo (sel i l1 l2) k := fun k hk => hk.imp id .inr
  have hno : ∀ k, (k = g ∨ (sel i l1 l2).v.ownBlock = some k) → ¬ X k := fun k hk hx => H.out.not (No.sel (hS k hk)) hx
  refine ⟨rfl, fun k => X k ∨ (w.heap.size ≤ k ∧ IsT 5 w2 k), ⟨v', (sel i l1 l2).L ++ [x], (sel i l1 l2).b, (sel i l1 l2).m, (sel i l1 l2).f, (sel i l1 l2).lost⟩, ?_, by simp, rfl, HF.out.mono fun k _ hk => No.sel (hS k hk), fun k hk => hk.imp id (·.1), ?_⟩
  · refine H.out.put i ⟨?_, ?_, hL.lb, ?_, ?_, hL.cnt, hL.low⟩ HB.out rfl HF.out hS ?_ (fun k => .inl) (fun k hk => hk) ?_ (Nat.le_refl _)
    · have := HO.out
      show w2.ownsRow base 33 1 v' ((sel i l1 l2).L ++ [x]).length (vals ((sel i l1 l2).L ++ [x]))
      rw [List.length_append]
      exact this
    · refine hL.map.fr HF.out ?_
      rintro (e | e)
      · exact H.out.noG i (.inl e.symm)
      · exact own_ne_map hL e
    · intro y hy
      rcases List.mem_append.1 hy with hy | hy
      · obtain ⟨r1, r2⟩ := hL.reads y hy
        exact ⟨(r1.fr HF.out (fun k hk hs => hno k hs hk)).imp fun k => .inl, r2⟩
      · obtain rfl := List.mem_singleton.1 hy
        exact ⟨HRx.out.imp fun k => .inr, HBY.out, by omega⟩
    · have := HLL.out
      show ((sel i l1 l2).L ++ [x]).length ≤ 256
      simp; omega
    · rintro k (e | e)
      · exact .inl (.inl e)
      · exact (HV.out k e).imp .inr id
    · cases i
      · exact H.out.m1
      · exact H.out.m2
  · rintro k (e | e)
    · exact .inl (.inl e)
    · exact (HV.out k e).imp .inr id

theorem take_bad (a k : Int) (h1 : ¬ a = 1) (h2 : ¬ a = 2) (g : Nat) (w : World) : Calls Try.prog 11 #[.pointer (some ⟨g, 0, none⟩), .int .i64 a, .int .u64 k] w fun e w' => e = .returned (.tuple #[.slice none 0 0, .iface 45 (.int .i64 2)]) ∧ w = w' := by
  have HB := Lib.hid (pick_bad a k h1 h2 g w)
  clear h1 h2
  go_enter Try.func11, Try.ntmps11
  go_wp2_with fail
  refine HB.out.mono ?_
  rintro e w' ⟨rfl, rfl⟩
  go_wp2_with fail
  go_ret2
  exact ⟨rfl, rfl⟩
theorem take_none {X : Nat → Prop} {w : World} {base g : Nat} {p : Int} {l1 l2 : Ln} {N : Nat} (h : Nt X w base g p l1 l2 N) (i : Bool) (k : Int) (h0 : (sel i l1 l2).L = []) :
    Calls Try.prog 11 #[.pointer (some ⟨g, 0, none⟩), .int .i64 (wayI i), .int .u64 k] w fun e w' => e = .returned (.tuple #[.slice none 0 0, .iface 45 (.int .i64 11)]) ∧ w = w' := by
  have HB := Lib.hid (pick_none h i k h0)
  clear h h0
  go_enter Try.func11, Try.ntmps11
  go_wp2_with fail
  refine HB.out.mono ?_
  rintro e w' ⟨rfl, rfl⟩
  go_wp2_with fail
  go_ret2
  exact ⟨rfl, rfl⟩
theorem off_ne (i : Bool) : off i ≠ off i + 1 := by omega
theorem step_mdel {P : Program} {w : World} {ops : Array Oper} {o : Oper} {a : Act} {Q : Exit → Act → World → Prop} {b n : Nat} {f : Lit → Option Value} {k e t : TypeId} {K : Act → World → Prop} {F : Prop} (hM : MapAt w P k b n f) (KK : Keyed P k) (ht : P.underlying t = some (.map k e)) (hg : o.guard = none) (m x : Operand)
    (hop : o.op = Op.call { callee := Callee.builtin Builtin.delete, args := #[m, x], argTypes := #[t, k] })
    (hm : a.eval m = .map (some b)) (key : Value) (kl : Lit) (hx : a.eval x = key) (hkey : keyOf P k key = some kl)
    (hK : ∀ w', MapAt w' P k b n (putF f kl none) → Fr (fun j => j = b) w w' → K (a.put o.dst (.tuple #[])) w') :
    if Region.wanted o (yielded ops a.tmps) = true then Oper.wp P o a w K Q else F := by
  have hw : Region.wanted o (yielded ops a.tmps) = true := by simp [Region.wanted, hg]
  rw [if_pos hw]
  obtain ⟨w', hrun, r1, r2⟩ := hM.drop KK ht hkey o.type
  unfold Oper.wp
  simp [execOp, hop, resolve, invoke, builtin, hm, hx, hrun, Result.andThen]
  exact hK w' r1 r2
/-- A lane with a frame fewer. -/
def Ln.less (l : Ln) (v : Value) (j : Nat) (f : Lit → Option Value) (m : Nat) (ls : List Int → Int) : Ln := ⟨v, l.L.eraseIdx j, l.b, m, f, ls⟩
theorem lost_none {f : Lit → Option Value} {ls : List Int → Int} (h : ∀ xs, Byt xs → (f (key xs)).getD (.int .i64 0) = .int .i64 (ls xs)) (xs : List Int) (hx : Byt xs) :
    ∀ ys, Byt ys → (putF f (key xs) none (key ys)).getD (.int .i64 0) = .int .i64 (if ys = xs then 0 else ls ys) := by
  intro ys hy
  by_cases e : ys = xs
  · subst e
    rw [putF_same (by unfold key; trivial), if_pos rfl]
    rfl
  · rw [putF_other (fun h => e (key_inj hy hx h)), if_neg e]
    exact h ys hy
theorem lost_some {f : Lit → Option Value} {ls : List Int → Int} (h : ∀ xs, Byt xs → (f (key xs)).getD (.int .i64 0) = .int .i64 (ls xs)) (xs : List Int) (hx : Byt xs) (v : Int) :
    ∀ ys, Byt ys → (putF f (key xs) (some (.int .i64 v)) (key ys)).getD (.int .i64 0) = .int .i64 (if ys = xs then v else ls ys) := by
  intro ys hy
  by_cases e : ys = xs
  · subst e
    rw [putF_same (by unfold key; trivial), if_pos rfl]
    rfl
  · rw [putF_other (fun h => e (key_inj hy hx h)), if_neg e]
    exact h ys hy
theorem take_in {X : Nat → Prop} {w : World} {base g : Nat} {p : Int} {l1 l2 : Ln} {N : Nat} (h : Nt X w base g p l1 l2 N) (i : Bool) (k : Int) (hk0 : 0 ≤ k) (hk1 : k < 18446744073709551616) (h0 : 0 < (sel i l1 l2).L.length) :
    Calls Try.prog 11 #[.pointer (some ⟨g, 0, none⟩), .int .i64 (wayI i), .int .u64 k] w fun e w' => ∃ (x : Fm) (l' : Ln), (sel i l1 l2).L[k.toNat % (sel i l1 l2).L.length]? = some x ∧
      e = .returned (.tuple #[x.val, .nilIface]) ∧ Nt X w' base g p (put1 i l1 l') (put2 i l2 l') N ∧ l'.L = (sel i l1 l2).L.eraseIdx (k.toNat % (sel i l1 l2).L.length) ∧
      (∀ ys, l'.lost ys = if ys = x.xs then 0 else (sel i l1 l2).lost ys) ∧ Rd X w' 1 x.A x.n (u8s x.xs) ∧ Byt x.xs ∧ Fr (No g l1 l2) w w' ∧ ∀ k, Lo l' k → Lo (sel i l1 l2) k := by
  have HP := Lib.hid (pick_some h i k hk0 hk1 h0)
  have H := Lib.hid h
  have hjl : k.toNat % (sel i l1 l2).L.length < (sel i l1 l2).L.length := Nat.mod_lt _ h0
  clear hk0 hk1 h0 h
  generalize k.toNat % (sel i l1 l2).L.length = j at HP hjl ⊢
  obtain ⟨x, hx⟩ : ∃ x, x = (sel i l1 l2).L[j] := ⟨_, rfl⟩
  have hxm : x ∈ (sel i l1 l2).L := by rw [hx]; exact List.getElem_mem _
  have HX : Hid ((sel i l1 l2).L[j]? = some x) := Lib.hid (by rw [List.getElem?_eq_getElem hjl, hx])
  have HJ := Lib.hid hjl
  go_enter Try.func11, Try.ntmps11
  go_wp2_with fail
  refine HP.out.mono ?_
  rintro e w1 ⟨rfl, hN1⟩
  have HN1 : Hid (New w w1) := Lib.hid hN1
  have H1 := Lib.hid (H.out.new hN1)
  obtain ⟨c0, c1, hL⟩ := H1.out.at i
  have HD := Lib.hid (drop_any (sel i l1 l2) g (off i) 71 (nslots p l1 l2) w1 base hL.own c0 H1.out.blk (fun e => H1.out.noG i (.inr e)) j hjl hL.len)
  rw [← hx] at HD
  clear hN1 c0 hjl hx
  go_wp2_with fail
  refine HD.out.mono ?_
  rintro e w2 ⟨rfl, v', hO, hB, hF, hv⟩
  have hS : ∀ k, (k = g ∨ (sel i l1 l2).v.ownBlock = some k) → k = g ∨ Lo (sel i l1 l2) k := fun k hk => hk.imp id .inr
  have hno : ∀ k, (k = g ∨ (sel i l1 l2).v.ownBlock = some k) → ¬ X k := fun k hk hx => H1.out.not (No.sel (hS k hk)) hx
  have hRx : Rd X w2 1 x.A x.n (u8s x.xs) := ((hL.reads x hxm).1).fr hF (fun k hk hs => hno k hs hk)
  have HBY := Lib.hid (hL.reads x hxm).2.1
  have hxn := (hL.reads x hxm).2.2
  have hxl : x.xs.length = x.n := by have := hRx.1; rw [u8s_len] at this; omega
  have HKO := Lib.hid (key_of (xs := x.xs) (by omega))
  have hM : MapAt w2 Try.prog 9 (sel i l1 l2).b (sel i l1 l2).m (sel i l1 l2).f := by
    refine hL.map.fr hF ?_
    rintro (e | e)
    · exact H1.out.noG i (.inl e.symm)
    · exact own_ne_map hL e
  have HM : Hid (MapAt w2.drew Try.prog 9 (sel i l1 l2).b (sel i l1 l2).m (sel i l1 l2).f) := Lib.hid hM
  clear hM
  have HRx := Lib.hid hRx
  have m1 : w2.cell? ⟨g, off i + 1, none⟩ = some (.map (some (sel i l1 l2).b)) := by
    rw [hB.cell]
    cases i <;> rfl
  have hcv := run_conv (c := x.c) (w := w2.drew) hRx
  have HO := Lib.hid hO
  have HB := Lib.hid hB
  have HF := Lib.hid hF
  have HV := Lib.hid hv
  clear hO hB hF hv hS hno hRx c1 hL hxm
  simp only [Fm.val]
  obtain ⟨xA, xn, xc, xs⟩ := x
  dsimp only at HBY hxn hxl HKO HRx hcv ⊢
  obtain ⟨st, hst⟩ : ∃ st, st = strOfNums xs := ⟨_, rfl⟩
  rw [← hst] at hcv HKO
  clear hst HP HD
  go_wp2_with fail
  go_region_law (refine step_mdel HM.out keyS Try.underlying30 rfl (.tmp 29) (.tmp 31) rfl (by simp [Act.eval, Act.put]) (.string st) (key xs) (by simp [Act.eval, Act.put]) HKO.out ?_; intro w3 hM3 hF3)
  all_goals
    have HM3 := Lib.hid hM3
    have HF3 := Lib.hid hF3
    clear hM3 hF3
    go_wp2_with fail
    go_ret2
    obtain ⟨c0, c1, hL⟩ := H1.out.at i
    have hF3 : Fr (fun k => k = (sel i l1 l2).b) w2 w3 := Fr.ofDrew HF3.out
    have hS : ∀ k, (k = g ∨ Lo (sel i l1 l2) k) → ¬ X k := fun k hk hx => H1.out.not (No.sel hk) hx
    have hbg : ¬ g = (sel i l1 l2).b := fun e => H1.out.noG i (.inl e)
    have hFF : Fr (fun k => k = g ∨ Lo (sel i l1 l2) k) w1 w3 := (HF.out.mono fun k _ hk => hk.imp id .inr).trans (hF3.mono fun k _ hk => .inr (.inl hk))
    have hvb : ¬ v'.ownBlock = some (sel i l1 l2).b := fun e => by rw [HV.out] at e; exact own_ne_map hL e
    refine ⟨⟨xA, xn, xc, xs⟩, (sel i l1 l2).less v' j (putF (sel i l1 l2).f (key xs) none) (sel i l1 l2).m (fun ys => if ys = xs then 0 else (sel i l1 l2).lost ys), HX.out, rfl, ?_, rfl, fun ys => rfl, ?_, HBY.out, ?_, ?_⟩
    · refine H1.out.put i ⟨?_, HM3.out, hL.lb, ?_, ?_, lost_none hL.cnt xs HBY.out, ?_⟩ (HB.out.fr hF3 hbg) rfl hFF (fun k hk => hk) ?_ (fun k hk => hk) (fun k hk => .inl hk) ?_ (Nat.le_refl _)
      · have h := own_fr HO.out hF3 (fun k hk e => hvb (e ▸ hk))
        show w3.ownsRow base 33 1 v' ((sel i l1 l2).L.eraseIdx j).length (vals ((sel i l1 l2).L.eraseIdx j))
        rw [List.length_eraseIdx_of_lt HJ.out]
        exact h
      · intro y hy
        obtain ⟨r1, r2⟩ := hL.reads y (List.mem_of_mem_eraseIdx hy)
        exact ⟨r1.fr hFF (fun k hk hs => hS k hs hk), r2⟩
      · show ((sel i l1 l2).L.eraseIdx j).length ≤ 256
        rw [List.length_eraseIdx_of_lt HJ.out]
        have := hL.len; omega
      · intro ys
        have := hL.low ys
        show 0 ≤ (if ys = xs then 0 else (sel i l1 l2).lost ys) ∧ (if ys = xs then 0 else (sel i l1 l2).lost ys) < 64
        split <;> omega
      · rintro k (e | e)
        · exact .inl (.inl e)
        · exact .inl (.inr (by rw [← HV.out]; exact e))
      · cases i
        · exact H1.out.m1
        · exact H1.out.m2
    · exact HRx.out.fr hF3 (fun k hk e => hS k (.inr (.inl e)) hk)
    · exact (HN1.out.toFr _).trans (hFF.mono fun k _ hk => No.sel hk)
    · rintro k (e | e)
      · exact .inl e
      · exact .inr (by rw [← HV.out]; exact e)
end Go.Proofs.Ytajoahhjgloefaa
