/- What the acts do in plain words; each side's calls do just that. No condition but that all can be read. -/
import Derived.Test.YtajoahhjgloefaaTuF
import Derived.Test.YtajoahhjgloefaaTrF
import Derived.Test.YtajoahhjgloefaaTrJ
import Derived.Test.YtajoahhjgloefaaNum
namespace Go.Proofs.Ytajoahhjgloefaa
open Go.RowKit Go.Maps

/-- A net in plain words: frames under way, how many such ones were lost. -/
structure Ms where
  F : Bool → List (List Int)
  T : Bool → List Int → Int
def upd {α : Type} (f : Bool → α) (i : Bool) (v : α) : Bool → α := fun j => if j = i then v else f j
def wayD (a : Int) : Option Bool := if a = 1 then some false else if a = 2 then some true else none
theorem wayD_1 : wayD 1 = some false := rfl
theorem wayD_2 : wayD 2 = some true := rfl
theorem wayD_no {a : Int} (h1 : ¬ a = 1) (h2 : ¬ a = 2) : wayD a = none := by simp [wayD, h1, h2]
theorem wayD_I (i : Bool) : wayD (wayI i) = some i := by cases i <;> rfl
def errV (n : Int) : Value := if n = 0 then .nilIface else .iface 45 (.int .i64 n)
def pickAt (l : List (List Int)) (k : Int) : Option (List Int) := l[k.toNat % l.length]?
def mSend (s : Ms) (a : Int) (xs : List Int) : Ms × Int := match wayD a with
  | none => (s, 2)
  | some i => if (s.F i).length < 256 then ({ s with F := upd s.F i (s.F i ++ [xs]) }, 0) else (s, 12)
def mTake (s : Ms) (a k : Int) : Ms × List Int × Int := match wayD a with
  | none => (s, [], 2)
  | some i => match pickAt (s.F i) k with
    | none => (s, [], 11)
    | some x => (⟨upd s.F i ((s.F i).eraseIdx (k.toNat % (s.F i).length)), upd s.T i (fun ys => if ys = x then 0 else s.T i ys)⟩, x, 0)
def mLose (p : Int) (s : Ms) (a k : Int) : Ms × Int := match wayD a with
  | none => (s, 2)
  | some i => match pickAt (s.F i) k with
    | none => (s, 11)
    | some x => if s.T i x < p - 1 then (⟨upd s.F i ((s.F i).eraseIdx (k.toNat % (s.F i).length)), upd s.T i (fun ys => if ys = x then s.T i x + 1 else s.T i ys)⟩, 0) else (s, 10)
def mTwice (s : Ms) (a k : Int) : Ms × Int := match wayD a with
  | none => (s, 2)
  | some i => match pickAt (s.F i) k with
    | none => (s, 11)
    | some x => if (s.F i).length < 256 then ({ s with F := upd s.F i (s.F i ++ [x]) }, 0) else (s, 12)
def mLost (s : Ms) (a : Int) (xs : List Int) : Int := match wayD a with
  | none => 0
  | some i => s.T i xs
theorem way_cases (a : Int) : (wayD a = none ∧ ¬ a = 1 ∧ ¬ a = 2) ∨ ∃ i, a = wayI i ∧ wayD a = some i := by
  by_cases h1 : a = 1
  · exact .inr ⟨false, h1, by rw [h1]; rfl⟩
  · by_cases h2 : a = 2
    · exact .inr ⟨true, h2, by rw [h2]; rfl⟩
    · exact .inl ⟨wayD_no h1 h2, h1, h2⟩

/-! ### The program's side -/
structure NRep (X : Nat → Prop) (l1 l2 : Ln) (w : World) (base g : Nat) (p : Int) (N : Nat) (s : Ms) : Prop where
  nt : Nt X w base g p l1 l2 N
  eF : ∀ i, (sel i l1 l2).L.map Fm.xs = s.F i
  eT : ∀ i xs, (sel i l1 l2).lost xs = s.T i xs
def NStep (X : Nat → Prop) (l1 l2 : Ln) (w : World) (base g : Nat) (p : Int) (N : Nat) (s' : Ms) (w' : World) : Prop :=
  ∃ (X' : Nat → Prop) (l1' l2' : Ln), NRep X' l1' l2' w' base g p N s' ∧ Fr (No g l1 l2) w w' ∧ (∀ k, No g l1' l2' k → No g l1 l2 k ∨ w.heap.size ≤ k) ∧ ∀ k, X' k → X k ∨ w.heap.size ≤ k
section
variable {X : Nat → Prop} {l1 l2 : Ln} {w w' : World} {base g : Nat} {p : Int} {N : Nat} {s : Ms}
theorem NRep.new (h : NRep X l1 l2 w base g p N s) (hN : New w w') : NRep X l1 l2 w' base g p N s := ⟨h.nt.new hN, h.eF, h.eT⟩
theorem Nt.more {M : Nat} (h : Nt X w base g p l1 l2 N) (hm : N ≤ M) : Nt X w base g p l1 l2 M := ⟨h.blk, h.gb, h.p1, h.p2, h.one, h.two, Nat.le_trans h.m1 hm, Nat.le_trans h.m2 hm, h.apart, h.xs⟩
theorem NRep.more {M : Nat} (h : NRep X l1 l2 w base g p N s) (hm : N ≤ M) : NRep X l1 l2 w base g p M s := ⟨h.nt.more hm, h.eF, h.eT⟩
theorem NRep.idle (h : NRep X l1 l2 w base g p N s) (hN : New w w') : NStep X l1 l2 w base g p N s w' := ⟨X, l1, l2, h.new hN, hN.toFr _, fun _ => .inl, fun _ => .inl⟩
theorem NStep.more {M : Nat} {s' : Ms} (h : NStep X l1 l2 w base g p N s' w') (hm : N ≤ M) : NStep X l1 l2 w base g p M s' w' := by
  obtain ⟨X', l1', l2', h1, r⟩ := h
  exact ⟨X', l1', l2', h1.more hm, r⟩
theorem NRep.len (h : NRep X l1 l2 w base g p N s) (i : Bool) : (sel i l1 l2).L.length = (s.F i).length := by rw [← h.eF i, List.length_map]
theorem no_sel_put {l' : Ln} {k : Nat} {i : Bool} (h : No g (put1 i l1 l') (put2 i l2 l') k) (hL : Lo l' k → Lo (sel i l1 l2) k ∨ w.heap.size ≤ k) : No g l1 l2 k ∨ w.heap.size ≤ k := by
  rcases h with h | h | h
  · exact .inl (.inl h)
  · cases i
    · rcases hL h with h | h
      · exact .inl (.inr (.inl h))
      · exact .inr h
    · exact .inl (.inr (.inl h))
  · cases i
    · exact .inl (.inr (.inr h))
    · rcases hL h with h | h
      · exact .inl (.inr (.inr h))
      · exact .inr h
theorem sel_put (i j : Bool) (l' : Ln) : sel j (put1 i l1 l') (put2 i l2 l') = if j = i then l' else sel j l1 l2 := by cases i <;> cases j <;> rfl
theorem erase_map (L : List Fm) (j : Nat) : (L.eraseIdx j).map Fm.xs = (L.map Fm.xs).eraseIdx j := by
  induction L generalizing j with
  | nil => simp
  | cons x L ih => cases j <;> simp [ih]
theorem err_some {n : Int} (h : ¬ n = 0) : errV n = .iface 45 (.int .i64 n) := if_neg h
theorem num_any (n : Int) (hn : 0 ≤ n) (w : World) : Calls Try.prog 22 #[errV n] w fun e w' => e = .returned (.int .i64 n) ∧ w = w' := by
  by_cases h : n = 0
  · subst h
    exact num_none w
  · rw [err_some h]
    exact num_some n w (by omega)
theorem n_send {q : Nat → Prop} (h : NRep X l1 l2 w base g p N s) (a : Int) (A : Option Addr) (n c : Nat) (xs : List Int) (hR : Rd q w 1 A n (u8s xs)) (hb : Byt xs) (hn : n ≤ 1000) :
    Calls Try.prog 16 #[.pointer (some ⟨g, 0, none⟩), .int .i64 a, .slice A n c] w fun e w' => e = .returned (errV (mSend s a xs).2) ∧ NStep X l1 l2 w base g p N (mSend s a xs).1 w' := by
  rcases way_cases a with ⟨hw, h1, h2⟩ | ⟨i, rfl, hw⟩
  · simp only [mSend, hw]
    exact (send_bad a h1 h2 g _ w).mono fun e w' ⟨he, hw⟩ => ⟨he, by subst hw; exact h.idle (New.refl _)⟩
  · simp only [mSend, hw]
    have hlen := h.len i
    by_cases hf : (s.F i).length < 256
    · rw [if_pos hf]
      refine (send_in h.nt i A n c xs hR hb hn (by omega)).mono fun e w' ⟨he, X', l', hT, hL, hS, hF, hX, hlo⟩ => ⟨he, X', _, _, ⟨hT, fun j => ?_, fun j ys => ?_⟩, hF, fun k hk => no_sel_put hk (hlo k), hX⟩
      · rw [sel_put]
        show _ = upd s.F i _ j
        unfold upd
        by_cases hj : j = i
        · rw [if_pos hj, if_pos hj, hL, h.eF]
        · rw [if_neg hj, if_neg hj, h.eF]
      · rw [sel_put]
        by_cases hj : j = i
        · rw [if_pos hj, hS, h.eT, hj]
        · rw [if_neg hj, h.eT]
    · rw [if_neg hf]
      exact (send_full h.nt i _ (by omega)).mono fun e w' ⟨he, hw⟩ => ⟨he, by subst hw; exact h.idle (New.refl _)⟩
theorem n_pick (h : NRep X l1 l2 w base g p N s) (i : Bool) (k : Int) {x : List Int} (hx : pickAt (s.F i) k = some x) :
    0 < (sel i l1 l2).L.length ∧ ∃ y, (sel i l1 l2).L[k.toNat % (sel i l1 l2).L.length]? = some y ∧ y.xs = x := by
  unfold pickAt at hx
  rw [← h.eF i, List.length_map, List.getElem?_map] at hx
  obtain ⟨y, h2, h3⟩ := Option.map_eq_some_iff.1 hx
  refine ⟨?_, y, h2, h3⟩
  have := (List.getElem?_eq_some_iff.1 h2).1
  omega
theorem n_none (h : NRep X l1 l2 w base g p N s) (i : Bool) (k : Int) (hx : pickAt (s.F i) k = none) : (sel i l1 l2).L = [] := by
  rcases Nat.eq_zero_or_pos (sel i l1 l2).L.length with e | e
  · exact List.eq_nil_of_length_eq_zero e
  · unfold pickAt at hx
    have hlt : k.toNat % (s.F i).length < (s.F i).length := Nat.mod_lt _ (by rw [← h.len i]; exact e)
    rw [List.getElem?_eq_getElem hlt] at hx
    cases hx
theorem n_take (h : NRep X l1 l2 w base g p N s) (a k : Int) (hk0 : 0 ≤ k) (hk1 : k < 18446744073709551616) :
    Calls Try.prog 11 #[.pointer (some ⟨g, 0, none⟩), .int .i64 a, .int .u64 k] w fun e w' => (∃ A n c, e = .returned (.tuple #[.slice A n c, errV (mTake s a k).2.2]) ∧ Rd (fun k => IsT 5 w' k) w' 1 A n (u8s (mTake s a k).2.1) ∧ Byt (mTake s a k).2.1) ∧ NStep X l1 l2 w base g p N (mTake s a k).1 w' := by
  rcases way_cases a with ⟨hw, h1, h2⟩ | ⟨i, rfl, hw⟩
  · simp only [mTake, hw]
    exact (take_bad a k h1 h2 g w).mono fun e w' ⟨he, hw⟩ => ⟨⟨none, 0, 0, he, Rd.nil, fun _ h => by cases h⟩, by subst hw; exact h.idle (New.refl _)⟩
  · simp only [mTake, hw]
    cases hp : pickAt (s.F i) k with
    | none => exact (take_none h.nt i k (n_none h i k hp)).mono fun e w' ⟨he, hw⟩ => ⟨⟨none, 0, 0, he, Rd.nil, fun _ h => by cases h⟩, by subst hw; exact h.idle (New.refl _)⟩
    | some x =>
      obtain ⟨h0, y, hy, hyx⟩ := n_pick h i k hp
      refine (take_in h.nt i k hk0 hk1 h0).mono fun e w' ⟨x', l', hx', he, hT, hL, hS, hR, hB, hF, hlo⟩ => ?_
      obtain rfl : x' = y := Option.some.inj (hx'.symm.trans hy)
      rw [hyx] at hS hR hB
      refine ⟨⟨x'.A, x'.n, x'.c, he, hR.imp fun k hk => (hT.xs k hk).2, hB⟩, X, _, _, ⟨hT, fun j => ?_, fun j ys => ?_⟩, hF, fun k hk => no_sel_put hk (fun h => .inl (hlo _ h)), fun _ => .inl⟩
      · rw [sel_put]
        show _ = upd s.F i _ j
        unfold upd
        by_cases hj : j = i
        · rw [if_pos hj, if_pos hj, hL, erase_map, h.eF, h.len]
        · rw [if_neg hj, if_neg hj, h.eF]
      · rw [sel_put]
        show _ = upd s.T i _ j ys
        unfold upd
        by_cases hj : j = i
        · rw [if_pos hj, if_pos hj, hS, h.eT]
        · rw [if_neg hj, if_neg hj, h.eT]
theorem n_lose (h : NRep X l1 l2 w base g p N s) (a k : Int) (hk0 : 0 ≤ k) (hk1 : k < 18446744073709551616) (hN : N < 1000000) :
    Calls Try.prog 12 #[.pointer (some ⟨g, 0, none⟩), .int .i64 a, .int .u64 k] w fun e w' => e = .returned (errV (mLose p s a k).2) ∧ NStep X l1 l2 w base g p (N + 1) (mLose p s a k).1 w' := by
  rcases way_cases a with ⟨hw, h1, h2⟩ | ⟨i, rfl, hw⟩
  · simp only [mLose, hw]
    exact (lose_bad a k h1 h2 g w).mono fun e w' ⟨he, hw⟩ => ⟨he, by subst hw; exact (h.more (by omega)).idle (New.refl _)⟩
  · simp only [mLose, hw]
    cases hp : pickAt (s.F i) k with
    | none => exact (lose_none h.nt i k (n_none h i k hp)).mono fun e w' ⟨he, hw⟩ => ⟨he, by subst hw; exact (h.more (by omega)).idle (New.refl _)⟩
    | some x =>
      obtain ⟨h0, y, hy, hyx⟩ := n_pick h i k hp
      subst hyx
      have het := h.eT i y.xs
      refine (lose_in h.nt i k hk0 hk1 y hN hy).mono fun e w' ⟨c1, c2⟩ => ?_
      by_cases hsp : s.T i y.xs < p - 1
      · simp only [if_pos hsp]
        obtain ⟨he, l', hT, hL, hS, hF, hlo⟩ := c2 (by omega)
        refine ⟨he, X, _, _, ⟨hT, fun j => ?_, fun j ys => ?_⟩, hF, fun k hk => no_sel_put hk (fun h => .inl (hlo _ h)), fun _ => .inl⟩
        · rw [sel_put]
          show _ = upd s.F i _ j
          unfold upd
          by_cases hj : j = i
          · rw [if_pos hj, if_pos hj, hL, erase_map, h.eF, h.len]
          · rw [if_neg hj, if_neg hj, h.eF]
        · rw [sel_put]
          show _ = upd s.T i _ j ys
          unfold upd
          by_cases hj : j = i
          · rw [if_pos hj, if_pos hj, hS, h.eT, h.eT]
          · rw [if_neg hj, if_neg hj, h.eT]
      · simp only [if_neg hsp]
        obtain ⟨he, hNw⟩ := c1 (by omega)
        exact ⟨he, (h.more (by omega)).idle hNw⟩
theorem n_twice (h : NRep X l1 l2 w base g p N s) (a k : Int) (hk0 : 0 ≤ k) (hk1 : k < 18446744073709551616) :
    Calls Try.prog 15 #[.pointer (some ⟨g, 0, none⟩), .int .i64 a, .int .u64 k] w fun e w' => e = .returned (errV (mTwice s a k).2) ∧ NStep X l1 l2 w base g p N (mTwice s a k).1 w' := by
  rcases way_cases a with ⟨hw, h1, h2⟩ | ⟨i, rfl, hw⟩
  · simp only [mTwice, hw]
    exact (twice_bad a k h1 h2 g w).mono fun e w' ⟨he, hw⟩ => ⟨he, by subst hw; exact h.idle (New.refl _)⟩
  · simp only [mTwice, hw]
    cases hp : pickAt (s.F i) k with
    | none => exact (twice_none h.nt i k (n_none h i k hp)).mono fun e w' ⟨he, hw⟩ => ⟨he, by subst hw; exact h.idle (New.refl _)⟩
    | some x =>
      obtain ⟨h0, y, hy, hyx⟩ := n_pick h i k hp
      subst hyx
      have hlen := h.len i
      refine (twice_in h.nt i k hk0 hk1 y hy).mono fun e w' ⟨c1, c2⟩ => ?_
      by_cases hf : (s.F i).length < 256
      · simp only [if_pos hf]
        obtain ⟨he, X', l', hT, hL, hS, hF, hX, hlo⟩ := c2 (by omega)
        refine ⟨he, X', _, _, ⟨hT, fun j => ?_, fun j ys => ?_⟩, hF, fun k hk => no_sel_put hk (hlo k), hX⟩
        · rw [sel_put]
          show _ = upd s.F i _ j
          unfold upd
          by_cases hj : j = i
          · rw [if_pos hj, if_pos hj, hL, h.eF]
          · rw [if_neg hj, if_neg hj, h.eF]
        · rw [sel_put]
          by_cases hj : j = i
          · rw [if_pos hj, hS, h.eT, hj]
          · rw [if_neg hj, h.eT]
      · simp only [if_neg hf]
        obtain ⟨he, hNw⟩ := c1 (by omega)
        exact ⟨he, h.idle hNw⟩
theorem n_lost {q : Nat → Prop} (h : NRep X l1 l2 w base g p N s) (a : Int) (A : Option Addr) (n c : Nat) (xs : List Int) (hR : Rd q w 1 A n (u8s xs)) (hb : Byt xs) (hn : n ≤ 1000000) :
    Calls Try.prog 23 #[.pointer (some ⟨g, 0, none⟩), .int .i64 a, .slice A n c] w fun e w' => e = .returned (.int .i64 (mLost s a xs)) ∧ New w w' := by
  rcases way_cases a with ⟨hw, h1, h2⟩ | ⟨i, rfl, hw⟩
  · simp only [mLost, hw]
    exact (lost_bad a h1 h2 g _ w).mono fun e w' ⟨he, hw⟩ => ⟨he, by subst hw; exact New.refl _⟩
  · simp only [mLost, hw]
    exact (lost_in h.nt i A n c xs hR hb hn).mono fun e w' ⟨he, hN⟩ => ⟨by rw [he, h.eT], hN⟩
end

/-! ### The document's side -/
structure RRep (P : Nat → Prop) (w : World) (p : Int) (M : Nat) (s : Ms) (v : Value) : Prop where
  ex : ∃ a b, v = rnv p a b ∧ RlIn P w M a ∧ RlIn P w M b ∧ (∀ i, (rsel i a b).F.map Fm.xs = s.F i) ∧ ∀ i xs, cntR (rsel i a b).T xs = s.T i xs
section
variable {P Q S : Nat → Prop} {w w' : World} {p : Int} {M : Nat} {s : Ms} {v : Value}
theorem RRep.new (h : RRep P w p M s v) (hN : New w w') : RRep P w' p M s v := by
  obtain ⟨a, b, e, ha, hb, r⟩ := h.ex
  exact ⟨a, b, e, ha.new hN, hb.new hN, r⟩
theorem RRep.fr (h : RRep P w p M s v) (hF : Fr S w w') (hS : ∀ k, P k → ¬ S k) : RRep P w' p M s v := by
  obtain ⟨a, b, e, ha, hb, r⟩ := h.ex
  exact ⟨a, b, e, ha.fr hF hS, hb.fr hF hS, r⟩
theorem RRep.imp (h : RRep P w p M s v) (hq : ∀ k, P k → Q k) : RRep Q w p M s v := by
  obtain ⟨a, b, e, ha, hb, r⟩ := h.ex
  exact ⟨a, b, e, ha.imp hq, hb.imp hq, r⟩
theorem RRep.more {N : Nat} (h : RRep P w p M s v) (hm : M ≤ N) : RRep P w p N s v := by
  obtain ⟨a, b, e, ha, hb, r⟩ := h.ex
  exact ⟨a, b, e, ha.up hm, hb.up hm, r⟩
theorem rsel_in {a b : Rl} (ha : RlIn P w M a) (hb : RlIn P w M b) (i : Bool) : RlIn P w M (rsel i a b) := by cases i <;> assumption
theorem rsel_put (i j : Bool) (a b x : Rl) : rsel j (rput1 i a x) (rput2 i b x) = if j = i then x else rsel j a b := by cases i <;> cases j <;> rfl
theorem rput_in {a b x : Rl} (ha : RlIn P w M a) (hb : RlIn P w M b) (hx : RlIn P w M x) (i : Bool) : RlIn P w M (rput1 i a x) ∧ RlIn P w M (rput2 i b x) := by cases i <;> exact ⟨by assumption, by assumption⟩
/-- What a call leaves. -/
theorem r_put {a b x : Rl} {B : Nat} {s' : Ms} {i : Bool} (ha : RlIn P w M a) (hb : RlIn P w M b) (hN : New w w') (hB : B = w.heap.size) {N : Nat} (hMN : M ≤ N) (hx : RlIn (fun k => P k ∨ w.heap.size ≤ k) w' N x)
    (e1 : ∀ j, j ≠ i → (rsel j a b).F.map Fm.xs = s'.F j) (e2 : x.F.map Fm.xs = s'.F i) (e3 : ∀ j xs, j ≠ i → cntR (rsel j a b).T xs = s'.T j xs) (e4 : ∀ xs, cntR x.T xs = s'.T i xs) :
    RRep (fun k => P k ∨ w.heap.size ≤ k) w' p N s' (rnv p (rput1 i a x) (rput2 i b x)) := by
  obtain ⟨h1, h2⟩ := rput_in (i := i) (((ha.new hN).imp fun _ => .inl).up hMN) (((hb.new hN).imp fun _ => .inl).up hMN) hx
  refine ⟨_, _, rfl, h1, h2, fun j => ?_, fun j xs => ?_⟩
  · rw [rsel_put]
    by_cases hj : j = i
    · rw [if_pos hj, e2, hj]
    · rw [if_neg hj, e1 j hj]
  · rw [rsel_put]
    by_cases hj : j = i
    · rw [if_pos hj, e4, hj]
    · rw [if_neg hj, e3 j xs hj]
theorem RRep.keep (h : RRep P w p M s v) (hN : New w w') : RRep (fun k => P k ∨ w.heap.size ≤ k) w' p M s v := (h.new hN).imp fun _ => .inl
theorem cnt_app (T : List Fm) (y : Fm) (xs : List Int) : cntR (T ++ [y]) xs = if xs = y.xs then cntR T y.xs + 1 else cntR T xs := by
  unfold cntR
  rw [List.map_append, List.count_append]
  by_cases e : xs = y.xs
  · subst e
    simp
  · rw [if_neg e]
    have : ¬ y.xs = xs := fun h => e h.symm
    simp [List.count_cons, this]
theorem cnt_oth (T : List Fm) (ys xs : List Int) : cntR (othR T ys) xs = if xs = ys then 0 else cntR T xs := by
  unfold cntR othR
  induction T with
  | nil => simp
  | cons z T ih =>
    by_cases e : z.xs = ys
    · rw [List.filter_cons_of_neg (by simp [e]), ih]
      by_cases e2 : xs = ys
      · rw [if_pos e2, if_pos e2]
      · rw [if_neg e2, if_neg e2]
        have : ¬ z.xs = xs := fun h => e2 (by rw [← h, e])
        simp [List.count_cons, this]
    · rw [List.filter_cons_of_pos (by simp [e]), List.map_cons, List.map_cons, List.count_cons, List.count_cons]
      by_cases e2 : xs = ys
      · rw [if_pos e2] at ih ⊢
        have : ¬ z.xs = xs := fun h => e (by rw [h, e2])
        simp [this]
        simpa using ih
      · rw [if_neg e2] at ih ⊢
        generalize (if (z.xs == xs) = true then 1 else 0) = q
        omega
theorem r_send (h : RRep P w p M s v) (a : Int) (y : Fm) (hy : Rd P w 1 y.A y.n (u8s y.xs) ∧ Byt y.xs ∧ y.n ≤ 1000) :
    Calls Try.prog 21 #[v, .int .i64 a, y.val] w fun e w' => (∃ v', e = .returned (.tuple #[v', .int .i64 (mSend s a y.xs).2]) ∧ RRep (fun k => P k ∨ w.heap.size ≤ k) w' p M (mSend s a y.xs).1 v') ∧ New w w' := by
  obtain ⟨ra, rb, rfl, ha, hb, eF, eT⟩ := h.ex
  rcases way_cases a with ⟨hw, h1, h2⟩ | ⟨i, rfl, hw⟩
  · simp only [mSend, hw]
    exact (rsend_bad p ra rb a h1 h2 _ w).mono fun e w' ⟨he, hN⟩ => ⟨⟨_, he, h.keep hN⟩, hN⟩
  · simp only [mSend, hw]
    have hlen : (rsel i ra rb).F.length = (s.F i).length := by rw [← eF i, List.length_map]
    have hfl := (rsel_in ha hb i).fl
    have hn := (rsel_in ha hb i).f.len
    by_cases hf : (s.F i).length < 256
    · rw [if_pos hf]
      refine (rsend_in i p ra rb y w (rsel_in ha hb i) (by omega) hy).mono fun e w' ⟨x, he, hx, hF, hT, hN⟩ => ⟨⟨_, he, r_put ha hb hN rfl (Nat.le_refl _) hx ?_ ?_ ?_ ?_⟩, hN⟩
      · intro j hj; show _ = upd s.F i _ j; unfold upd; rw [if_neg hj, eF]
      · show _ = upd s.F i _ i; unfold upd; rw [if_pos rfl, hF, List.map_append, eF]; rfl
      · intro j xs hj; exact eT j xs
      · intro xs; rw [hT]; exact eT i xs
    · rw [if_neg hf]
      exact (rsend_full i p ra rb _ w (by omega)).mono fun e w' ⟨he, hN⟩ => ⟨⟨_, he, h.keep hN⟩, hN⟩
theorem r_pick {a b : Rl} (eF : ∀ i, (rsel i a b).F.map Fm.xs = s.F i) (i : Bool) (k : Int) {x : List Int} (hx : pickAt (s.F i) k = some x) :
    ∃ y, (rsel i a b).F[k.toNat % (rsel i a b).F.length]? = some y ∧ y.xs = x := by
  unfold pickAt at hx
  rw [← eF i, List.length_map, List.getElem?_map] at hx
  exact Option.map_eq_some_iff.1 hx
theorem r_none {a b : Rl} (eF : ∀ i, (rsel i a b).F.map Fm.xs = s.F i) (i : Bool) (k : Int) (hx : pickAt (s.F i) k = none) : (rsel i a b).F = [] := by
  rcases Nat.eq_zero_or_pos (rsel i a b).F.length with e | e
  · exact List.eq_nil_of_length_eq_zero e
  · unfold pickAt at hx
    rw [← eF i, List.length_map] at hx
    have hlt : k.toNat % (rsel i a b).F.length < (rsel i a b).F.length := Nat.mod_lt _ e
    rw [List.getElem?_map, List.getElem?_eq_getElem hlt] at hx
    cases hx
theorem r_take (h : RRep P w p M s v) (a k : Int) (hk0 : 0 ≤ k) (hk1 : k < 18446744073709551616) (hM : M ≤ 100000) :
    Calls Try.prog 17 #[v, .int .i64 a, .int .u64 k] w fun e w' => (∃ v' A n c, e = .returned (.tuple #[v', .slice A n c, .int .i64 (mTake s a k).2.2]) ∧ Rd (fun k => P k ∨ w.heap.size ≤ k) w' 1 A n (u8s (mTake s a k).2.1) ∧ Byt (mTake s a k).2.1 ∧ RRep (fun k => P k ∨ w.heap.size ≤ k) w' p M (mTake s a k).1 v') ∧ New w w' := by
  obtain ⟨ra, rb, rfl, ha, hb, eF, eT⟩ := h.ex
  rcases way_cases a with ⟨hw, h1, h2⟩ | ⟨i, rfl, hw⟩
  · simp only [mTake, hw]
    exact (rtake_no p ra rb rb a k 2 (by decide) (fun w => rplace_bad p ra rb a k h1 h2 w) w).mono fun e w' ⟨he, hN⟩ => ⟨⟨_, none, 0, 0, he, Rd.nil, (fun _ h => by cases h), h.keep hN⟩, hN⟩
  · simp only [mTake, hw]
    have hn := (rsel_in ha hb i).f.len
    cases hp : pickAt (s.F i) k with
    | none =>
      have hz := r_none eF i k hp
      exact (rtake_no p ra rb (rsel i ra rb) (wayI i) k 11 (by decide) (fun w => rplace_none i p ra rb k w (by rw [hn, hz]; rfl)) w).mono fun e w' ⟨he, hN⟩ => ⟨⟨_, none, 0, 0, he, Rd.nil, (fun _ h => by cases h), h.keep hN⟩, hN⟩
    | some x =>
      obtain ⟨y, hy, hyx⟩ := r_pick eF i k hp
      subst hyx
      have hyr := (rsel_in ha hb i).f.el y (List.mem_of_getElem? hy)
      have hlen : (rsel i ra rb).F.length = (s.F i).length := by rw [← eF i, List.length_map]
      refine (rtake_in i p ra rb k y w hk0 hk1 (rsel_in ha hb i) hM hy).mono fun e w' ⟨x, he, hx, hF, hT, hN⟩ => ⟨⟨_, y.A, y.n, y.c, he, (hN.rd hyr.1).imp fun _ => .inl, hyr.2.1, r_put ha hb hN rfl (Nat.le_refl _) hx ?_ ?_ ?_ ?_⟩, hN⟩
      · intro j hj; show _ = upd s.F i _ j; unfold upd; rw [if_neg hj, eF]
      · show _ = upd s.F i _ i; unfold upd; rw [if_pos rfl, hF, erase_map, eF, hlen]
      · intro j xs hj; show _ = upd s.T i _ j xs; unfold upd; rw [if_neg hj, eT]
      · intro xs; show _ = upd s.T i _ i xs; unfold upd; rw [if_pos rfl, hT, cnt_oth, eT]
theorem r_lose (h : RRep P w p M s v) (a k : Int) (hp0 : 0 ≤ p) (hp1 : p ≤ 64) (hk0 : 0 ≤ k) (hk1 : k < 18446744073709551616) (hM : M ≤ 100000) :
    Calls Try.prog 19 #[v, .int .i64 a, .int .u64 k] w fun e w' => (∃ v', e = .returned (.tuple #[v', .int .i64 (mLose p s a k).2]) ∧ RRep (fun k => P k ∨ w.heap.size ≤ k) w' p (M + 1) (mLose p s a k).1 v') ∧ New w w' := by
  obtain ⟨ra, rb, rfl, ha, hb, eF, eT⟩ := h.ex
  have h' := h.more (N := M + 1) (by omega)
  rcases way_cases a with ⟨hw, h1, h2⟩ | ⟨i, rfl, hw⟩
  · simp only [mLose, hw]
    exact (rlose_no p ra rb rb a k 2 (by decide) (fun w => rplace_bad p ra rb a k h1 h2 w) w).mono fun e w' ⟨he, hN⟩ => ⟨⟨_, he, h'.keep hN⟩, hN⟩
  · simp only [mLose, hw]
    have hn := (rsel_in ha hb i).f.len
    cases hp : pickAt (s.F i) k with
    | none =>
      have hz := r_none eF i k hp
      exact (rlose_no p ra rb (rsel i ra rb) (wayI i) k 11 (by decide) (fun w => rplace_none i p ra rb k w (by rw [hn, hz]; rfl)) w).mono fun e w' ⟨he, hN⟩ => ⟨⟨_, he, h'.keep hN⟩, hN⟩
    | some x =>
      obtain ⟨y, hy, hyx⟩ := r_pick eF i k hp
      subst hyx
      have hlen : (rsel i ra rb).F.length = (s.F i).length := by rw [← eF i, List.length_map]
      have het := eT i y.xs
      by_cases hsp : s.T i y.xs < p - 1
      · simp only [if_pos hsp]
        refine (rlose_in i p ra rb k y w hp0 hp1 hk0 hk1 (rsel_in ha hb i) hM hy (by omega)).mono fun e w' ⟨x, he, hx, hF, hT, hN⟩ => ⟨⟨_, he, r_put ha hb hN rfl (by omega) hx ?_ ?_ ?_ ?_⟩, hN⟩
        · intro j hj; show _ = upd s.F i _ j; unfold upd; rw [if_neg hj, eF]
        · show _ = upd s.F i _ i; unfold upd; rw [if_pos rfl, hF, erase_map, eF, hlen]
        · intro j xs hj; show _ = upd s.T i _ j xs; unfold upd; rw [if_neg hj, eT]
        · intro xs; show _ = upd s.T i _ i xs; unfold upd; rw [if_pos rfl, hT, cnt_app, eT, eT]
      · simp only [if_neg hsp]
        exact (rlose_full i p ra rb k y w hp0 hp1 hk0 hk1 (rsel_in ha hb i) hM hy (by omega)).mono fun e w' ⟨he, hN⟩ => ⟨⟨_, he, h'.keep hN⟩, hN⟩
theorem r_twice (h : RRep P w p M s v) (a k : Int) (hk0 : 0 ≤ k) (hk1 : k < 18446744073709551616) (hM : M ≤ 100000) :
    Calls Try.prog 20 #[v, .int .i64 a, .int .u64 k] w fun e w' => (∃ v', e = .returned (.tuple #[v', .int .i64 (mTwice s a k).2]) ∧ RRep (fun k => P k ∨ w.heap.size ≤ k) w' p M (mTwice s a k).1 v') ∧ New w w' := by
  obtain ⟨ra, rb, rfl, ha, hb, eF, eT⟩ := h.ex
  rcases way_cases a with ⟨hw, h1, h2⟩ | ⟨i, rfl, hw⟩
  · simp only [mTwice, hw]
    exact (rtwice_no p ra rb rb a k 2 (by decide) (fun w => rplace_bad p ra rb a k h1 h2 w) w).mono fun e w' ⟨he, hN⟩ => ⟨⟨_, he, h.keep hN⟩, hN⟩
  · simp only [mTwice, hw]
    have hn := (rsel_in ha hb i).f.len
    have hfl := (rsel_in ha hb i).fl
    cases hp : pickAt (s.F i) k with
    | none =>
      have hz := r_none eF i k hp
      exact (rtwice_no p ra rb (rsel i ra rb) (wayI i) k 11 (by decide) (fun w => rplace_none i p ra rb k w (by rw [hn, hz]; rfl)) w).mono fun e w' ⟨he, hN⟩ => ⟨⟨_, he, h.keep hN⟩, hN⟩
    | some x =>
      obtain ⟨y, hy, hyx⟩ := r_pick eF i k hp
      subst hyx
      have hlen : (rsel i ra rb).F.length = (s.F i).length := by rw [← eF i, List.length_map]
      by_cases hf : (s.F i).length < 256
      · simp only [if_pos hf]
        refine (rtwice_in i p ra rb k y w hk0 hk1 (rsel_in ha hb i) hM hy (by omega)).mono fun e w' ⟨x, he, hx, hF, hT, hN⟩ => ⟨⟨_, he, r_put ha hb hN rfl (Nat.le_refl _) hx ?_ ?_ ?_ ?_⟩, hN⟩
        · intro j hj; show _ = upd s.F i _ j; unfold upd; rw [if_neg hj, eF]
        · show _ = upd s.F i _ i; unfold upd; rw [if_pos rfl, hF, List.map_append, eF]; rfl
        · intro j xs hj; exact eT j xs
        · intro xs; rw [hT]; exact eT i xs
      · simp only [if_neg hf]
        exact (rtwice_full i p ra rb k y w hk0 hk1 (rsel_in ha hb i) hM hy (by omega)).mono fun e w' ⟨he, hN⟩ => ⟨⟨_, he, h.keep hN⟩, hN⟩
theorem r_lost (h : RRep P w p M s v) (a : Int) (A : Option Addr) (n c : Nat) (xs : List Int) (hM : M ≤ 100000) (hR : Rd Q w 1 A n (u8s xs)) (hb : Byt xs) :
    Calls Try.prog 24 #[v, .int .i64 a, .slice A n c] w fun e w' => e = .returned (.int .i64 (mLost s a xs)) ∧ New w w' := by
  obtain ⟨ra, rb, rfl, ha, hb', eF, eT⟩ := h.ex
  rcases way_cases a with ⟨hw, h1, h2⟩ | ⟨i, rfl, hw⟩
  · simp only [mLost, hw]
    exact rlost_bad p ra rb a h1 h2 _ w
  · simp only [mLost, hw]
    exact (rlost_in i p ra rb A n c xs w (rsel_in ha hb' i) (by omega) hR hb).mono fun e w' ⟨he, hN⟩ => ⟨by rw [he, eT], hN⟩
end
end Go.Proofs.Ytajoahhjgloefaa
