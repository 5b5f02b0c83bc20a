/- TransitFair: what its loop holds, and the cases of its switch. (mkfair.py writes this text.) No condition. -/
import Derived.Test.YtajoahhjgloefaaTrK
import Derived.Test.YtajoahhjgloefaaTrI
import Derived.Test.YtajoahhjgloefaaAppIn
import Derived.Shelf.Abstract
namespace Go.Proofs.Ytajoahhjgloefaa
open Go.RowKit Go.Maps

def findC (p : Code → Bool) (c : Code) : Option Code :=
  if p c then some c else match c with
  | .seq a b => match findC p a with
    | some c => some c
    | none => findC p b
  | .block _ c => findC p c
  | .scope c => findC p c
  | .loop c => findC p c
  | .cond _ a b => match findC p a with
    | some c => some c
    | none => findC p b
  | _ => none
def isBlk (n : Nat) : Code → Bool | .block m _ => m == n | _ => false
def isLoop : Code → Bool | .loop _ => true | _ => false
def isReg (n : Nat) : Code → Bool | .region m _ _ => m == n | _ => false
def loopOf : Code → Code | .loop c => c | _ => .skip

noncomputable def fblk : Code := (Try.f3.body.bind (findC (isBlk 4))).getD .skip

/-- Two maps beside the net, one a way, that count as the net does; an array of three maps holds them. -/
structure FN (W : World) (base g bl c0 : Nat) (C : Bool → Nat) (p : Int) (k : Nat) (X : Nat → Prop) (l1 l2 : Ln) (f : Bool → Lit → Option Value) (m : Bool → Nat) : Prop where
  nt : Nt X W base g p l1 l2 k
  BL : Blk W bl 31 #[.map (some c0), .map (some (C false)), .map (some (C true))]
  M : ∀ i, MapAt W Try.prog 9 (C i) (m i) (f i)
  mle : ∀ i, m i ≤ k
  cnt : ∀ i xs, Byt xs → (f i (key xs)).getD (.int .i64 0) = .int .i64 ((sel i l1 l2).lost xs)
  apart : ∀ j, No g l1 l2 j ∨ X j → ¬ (j = bl ∨ ∃ i, j = C i)
  cc : C false ≠ C true
  lb : base ≤ bl ∧ ∀ i, base ≤ C i
def Ours (g bl : Nat) (C : Bool → Nat) (l1 l2 : Ln) (j : Nat) : Prop := No g l1 l2 j ∨ ∃ i, j = C i
def FX (W : World) (base g bl c0 : Nat) (C : Bool → Nat) (p : Int) (k : Nat) (X : Nat → Prop) (l1 l2 : Ln) (w' : World) : Prop :=
  (∃ (X' : Nat → Prop) (l1' l2' : Ln) (f' : Bool → Lit → Option Value) (m' : Bool → Nat), FN w' base g bl c0 C p (k + 1) X' l1' l2' f' m') ∧ Fr (Ours g bl C l1 l2) W w'
section
variable {W w' : World} {base g bl c0 : Nat} {C : Bool → Nat} {p : Int} {k : Nat} {X X' : Nat → Prop} {l1 l2 l' : Ln} {f : Bool → Lit → Option Value} {m : Bool → Nat} {i : Bool}
theorem sel_put_same (i : Bool) (l1 l2 l' : Ln) : sel i (put1 i l1 l') (put2 i l2 l') = l' := by cases i <;> rfl
theorem sel_put_other {i j : Bool} (h : j ≠ i) (l1 l2 l' : Ln) : sel j (put1 i l1 l') (put2 i l2 l') = sel j l1 l2 := by cases i <;> cases j <;> first | rfl | exact absurd rfl h
theorem no_put {j : Nat} (h : No g (put1 i l1 l') (put2 i l2 l') j) (hL : Lo l' j → Lo (sel i l1 l2) j ∨ W.heap.size ≤ j) : No g l1 l2 j ∨ W.heap.size ≤ j := by
  rcases h with h | h | h
  · exact .inl (.inl h)
  · cases i
    · exact (hL h).imp (fun e => .inr (.inl e)) id
    · exact .inl (.inr (.inl h))
  · cases i
    · exact .inl (.inr (.inr h))
    · exact (hL h).imp (fun e => .inr (.inr e)) id
theorem Nt.up {N M : Nat} (h : Nt X W base g p l1 l2 N) (hm : N ≤ M) : Nt X W base g p l1 l2 M := ⟨h.blk, h.gb, h.p1, h.p2, h.one, h.two, Nat.le_trans h.m1 hm, Nat.le_trans h.m2 hm, h.apart, h.xs⟩
theorem FN.old (h : FN W base g bl c0 C p k X l1 l2 f m) {j : Nat} (hj : No g l1 l2 j ∨ X j ∨ j = bl ∨ ∃ i, j = C i) : j < W.heap.size := by
  rcases hj with h1 | h1 | rfl | ⟨i, rfl⟩
  · exact (h.nt.ours h1).2
  · obtain ⟨cs, fz, hx⟩ := (h.nt.xs j h1).2
    exact lt_of_block hx
  · exact h.BL.lt
  · exact (h.M i).lt
theorem FN.ne_bl (h : FN W base g bl c0 C p k X l1 l2 f m) (i : Bool) : bl ≠ C i := by
  intro e
  obtain ⟨D, ⟨es, clock, hx, _⟩, _⟩ := h.M i
  have hb := h.BL
  unfold Blk at hb
  rw [e, hx] at hb
  cases hb
theorem FN.ne_C (h : FN W base g bl c0 C p k X l1 l2 f m) {i j : Bool} (e : j ≠ i) : C j ≠ C i := by
  have := h.cc
  cases i <;> cases j <;> first | exact absurd rfl e | exact this | exact fun x => this x.symm
theorem FN.step (h : FN W base g bl c0 C p k X l1 l2 f m) (i : Bool) {f' : Lit → Option Value} {m' : Nat} (hN : Nt X' w' base g p (put1 i l1 l') (put2 i l2 l') (k + 1)) (hF : Fr (fun j => No g l1 l2 j ∨ j = C i) W w')
    (hM : MapAt w' Try.prog 9 (C i) m' f') (hm : m' ≤ k + 1) (hc : ∀ xs, Byt xs → (f' (key xs)).getD (.int .i64 0) = .int .i64 (l'.lost xs)) (hX : ∀ j, X' j → X j ∨ W.heap.size ≤ j) (hL : ∀ j, Lo l' j → Lo (sel i l1 l2) j ∨ W.heap.size ≤ j) :
    FX W base g bl c0 C p k X l1 l2 w' := by
  refine ⟨⟨X', put1 i l1 l', put2 i l2 l', fun j => if j = i then f' else f j, fun j => if j = i then m' else m j, hN, ?_, ?_, ?_, ?_, ?_, h.cc, h.lb⟩, hF.mono fun j _ hj => hj.imp id (fun e => ⟨i, e⟩)⟩
  · exact h.BL.fr hF (by
      rintro (e | e)
      · exact h.apart _ (.inl e) (.inl rfl)
      · exact h.ne_bl i e)
  · intro j
    by_cases e : j = i
    · subst e
      simp only [if_true]
      exact hM
    · simp only [if_neg e]
      exact (h.M j).fr hF (by
        rintro (e' | e')
        · exact h.apart _ (.inl e') (.inr ⟨_, rfl⟩)
        · exact h.ne_C e e')
  · intro j
    have := h.mle j
    by_cases e : j = i
    · simp only [if_pos e]; exact hm
    · simp only [if_neg e]; omega
  · intro j xs hx
    by_cases e : j = i
    · subst e
      simp only [if_true]
      rw [sel_put_same]
      exact hc xs hx
    · simp only [if_neg e]
      rw [sel_put_other e]
      exact h.cnt j xs hx
  · rintro j hj hb
    have hlt : j < W.heap.size := h.old (.inr (.inr hb))
    rcases hj with hj | hj
    · rcases no_put (W := W) hj (hL j) with e | e
      · exact h.apart j (.inl e) hb
      · omega
    · rcases hX j hj with e | e
      · exact h.apart j (.inr e) hb
      · omega
theorem FN.idle (h : FN W base g bl c0 C p k X l1 l2 f m) (hN : New W w') : FX W base g bl c0 C p k X l1 l2 w' :=
  ⟨⟨X, l1, l2, f, m, (h.nt.new hN).up (Nat.le_succ _), hN.blk h.BL, fun i => (h.M i).fr (hN.toFr NoB) (fun x => x), fun i => Nat.le_trans (h.mle i) (Nat.le_succ _), h.cnt, h.apart, h.cc, h.lb⟩, hN.toFr _⟩
end
/-- The strings of frames. -/
def strs (L : List Fm) : List Value := L.map fun y => .string (strOfNums y.xs)
/-- What holds at the switch. -/
structure SwIn (W : World) (base g bl c0 : Nat) (C : Bool → Nat) (p : Int) (k : Nat) (X : Nat → Prop) (l1 l2 : Ln) (f : Bool → Lit → Option Value) (m : Bool → Nat) (i : Bool) (wv pk kd : Int) (b9 b10 n sc z : Nat) (sA : Option Addr) (xf : Fm) : Prop where
  fn : FN W base g bl c0 C p k X l1 l2 f m
  k6 : k ≤ 600
  hw : wv = wayI i
  p0 : 0 ≤ pk
  p1 : pk < 18446744073709551616
  B9 : Blk W b9 35 #[.int .i64 kd, .int .i64 wv, .int .u64 pk, .slice xf.A xf.n xf.c]
  B10 : Blk W b10 36 #[.slice sA n sc]
  hn : (sel i l1 l2).L.length = n
  nc : n ≤ sc
  rd : Rd (fun k => z ≤ k) W 1 sA n (strs (sel i l1 l2).L)
  zz : ∀ j, (No g l1 l2 j ∨ X j ∨ j = bl ∨ ∃ i, j = C i) → j < z
  y9 : z ≤ b9
  y10 : z ≤ b10
  q : Rd (fun b => b < z) W 1 xf.A xf.n (u8s xf.xs)
  qb : Byt xf.xs
  qn : xf.n ≤ 200
theorem SwIn.wv {W : World} {base g bl c0 : Nat} {C : Bool → Nat} {p : Int} {k : Nat} {X : Nat → Prop} {l1 l2 : Ln} {f : Bool → Lit → Option Value} {m : Bool → Nat} {i : Bool} {wv pk kd : Int} {b9 b10 n sc z : Nat} {sA : Option Addr} {xf : Fm}
    (h : SwIn W base g bl c0 C p k X l1 l2 f m i wv pk kd b9 b10 n sc z sA xf) : 0 ≤ wv ∧ wv < 3 := by
  have := h.hw
  unfold wayI at this
  cases i <;> simp at this <;> omega
theorem SwIn.far {W : World} {base g bl c0 : Nat} {C : Bool → Nat} {p : Int} {k : Nat} {X : Nat → Prop} {l1 l2 : Ln} {f : Bool → Lit → Option Value} {m : Bool → Nat} {i : Bool} {wv pk kd : Int} {b9 b10 n sc z : Nat} {sA : Option Addr} {xf : Fm}
    (h : SwIn W base g bl c0 C p k X l1 l2 f m i wv pk kd b9 b10 n sc z sA xf) {j : Nat} (hj : z ≤ j) : ¬ (No g l1 l2 j ∨ j = C i) := by
  rintro (e | e)
  · have := h.zz j (.inl e); omega
  · have := h.zz j (.inr (.inr (.inr ⟨i, e⟩))); omega

set_option maxHeartbeats 8000000 in
set_option maxRecDepth 100000 in
theorem fs_take0 {x1 x2 x3 x4 x6 x8 x11 x12 x13 x14 x15 x16 x17 x18 x19 x20 x21 x22 x23 x24 x25 x26 x27 x28 x29 x30 x31 x32 x33 x34 x35 x36 x37 x38 x39 x40 x41 x42 x43 x44 x45 x46 x47 x48 x49 x50 x51 x52 x53 x54 x55 x56 x57 x58 x59 x61 x62 x63 x64 x65 x66 x67 x68 x69 x70 x71 x72 x73 x74 x75 x76 x77 x78 x79 x80 x81 x82 x83 x84 x85 x86 x87 x88 x89 x90 x91 x92 x93 x94 x95 x96 x97 x98 x99 x100 x101 x102 x103 x104 x105 x106 x107 x108 x109 x110 x111 x112 x113 x114 x115 x116 x117 x118 x119 x120 x121 x122 x123 x124 x125 x126 x127 x128 x129 x130 x131 x132 x133 x134 x135 x136 x137 x138 x139 x140 x141 x142 x143 x144 x145 x146 x147 x148 x149 x150 x151 : Value} {ds : List Deferred} {K : Act → World → Prop} {W : World} {base g bl c0 : Nat} {C : Bool → Nat} {p : Int} {k : Nat} {X : Nat → Prop} {l1 l2 : Ln} {f : Bool → Lit → Option Value} {m : Bool → Nat} {i : Bool} {wv pk kd : Int} {b9 b10 n sc z : Nat} {sA : Option Addr} {xf : Fm}
    (h : SwIn W base g bl c0 C p k X l1 l2 f m i wv pk kd b9 b10 n sc z sA xf) (h0 : n = 0)
    (hK : ∀ (y4 y12 y13 y14 y15 y61 y62 y63 y64 y65 y66 y67 y68 y69 y70 y71 y72 y73 y74 y75 y76 y77 y78 y79 y80 y81 y82 y83 y84 y85 y86 y87 y88 y89 y90 y91 y92 y93 y94 y95 y96 y97 y98 y99 y100 y101 y102 y103 y104 y105 y106 y107 y108 y109 y110 y111 y112 y113 y114 y115 y116 y117 y118 y119 y120 y121 y122 y123 y124 y125 y126 y127 y128 y129 y130 y131 y132 y133 y134 y135 y136 y137 y138 y139 y140 y141 y142 y143 y144 y145 y146 y147 y148 y149 y150 : Value) (w' : World), FX W base g bl c0 C p k X l1 l2 w' → K ⟨#[.int .i64 p, x1, x2, x3, y4, .pointer (some ⟨g, 0, none⟩), x6, .pointer (some ⟨bl, 0, none⟩), x8, .pointer (some ⟨b9, 0, none⟩), .pointer (some ⟨b10, 0, none⟩), x11, y12, y13, y14, y15, x16, x17, x18, x19, x20, x21, x22, x23, x24, x25, x26, x27, x28, x29, x30, x31, x32, x33, x34, x35, x36, x37, x38, x39, x40, x41, x42, x43, x44, x45, x46, x47, x48, x49, x50, x51, x52, x53, x54, x55, x56, x57, x58, x59, .int .u64 2, y61, y62, y63, y64, y65, y66, y67, y68, y69, y70, y71, y72, y73, y74, y75, y76, y77, y78, y79, y80, y81, y82, y83, y84, y85, y86, y87, y88, y89, y90, y91, y92, y93, y94, y95, y96, y97, y98, y99, y100, y101, y102, y103, y104, y105, y106, y107, y108, y109, y110, y111, y112, y113, y114, y115, y116, y117, y118, y119, y120, y121, y122, y123, y124, y125, y126, y127, y128, y129, y130, y131, y132, y133, y134, y135, y136, y137, y138, y139, y140, y141, y142, y143, y144, y145, y146, y147, y148, y149, y150, x151], ds⟩ w') :
    Code.wp Try.prog fblk (Exit.then K fun _ _ _ => False) ⟨#[.int .i64 p, x1, x2, x3, x4, .pointer (some ⟨g, 0, none⟩), x6, .pointer (some ⟨bl, 0, none⟩), x8, .pointer (some ⟨b9, 0, none⟩), .pointer (some ⟨b10, 0, none⟩), x11, x12, x13, x14, x15, x16, x17, x18, x19, x20, x21, x22, x23, x24, x25, x26, x27, x28, x29, x30, x31, x32, x33, x34, x35, x36, x37, x38, x39, x40, x41, x42, x43, x44, x45, x46, x47, x48, x49, x50, x51, x52, x53, x54, x55, x56, x57, x58, x59, .int .u64 2, x61, x62, x63, x64, x65, x66, x67, x68, x69, x70, x71, x72, x73, x74, x75, x76, x77, x78, x79, x80, x81, x82, x83, x84, x85, x86, x87, x88, x89, x90, x91, x92, x93, x94, x95, x96, x97, x98, x99, x100, x101, x102, x103, x104, x105, x106, x107, x108, x109, x110, x111, x112, x113, x114, x115, x116, x117, x118, x119, x120, x121, x122, x123, x124, x125, x126, x127, x128, x129, x130, x131, x132, x133, x134, x135, x136, x137, x138, x139, x140, x141, x142, x143, x144, x145, x146, x147, x148, x149, x150, x151], ds⟩ W := by
  have HK := Lib.hid hK
  clear hK
  have a1 : W.cell? ⟨b9, 1, none⟩ = some (.int .i64 wv) := h.B9.cell 1
  have a2 : W.cell? ⟨b9, 2, none⟩ = some (.int .u64 pk) := h.B9.cell 2
  have a3 : W.cell? ⟨b9, 3, none⟩ = some (.slice xf.A xf.n xf.c) := h.B9.cell 3
  have e0 : W.cell? ⟨b10, 0, none⟩ = some (.slice sA n sc) := h.B10.cell 0
  obtain ⟨hw0, hw3⟩ := h.wv
  have HS := Lib.hid h
  obtain ⟨HWV⟩ : Nonempty (Hid (wayI i = wv)) := ⟨Lib.hid h.hw.symm⟩
  have HC := Lib.hid (take_none h.fn.nt i pk (List.eq_nil_of_length_eq_zero (by rw [h.hn, h0])))
  rw [HWV.out] at HC
  clear h h0
  conv => arg 2; whnf
  go_wp2_with fail
  refine HC.out.mono ?_
  rintro e w2 ⟨rfl, rfl⟩
  go_wp2_with fail
  refine HK.out _ _ _ _ _ _ _ _ _ _ _ _ _ _ _ _ _ _ _ _ _ _ _ _ _ _ _ _ _ _ _ _ _ _ _ _ _ _ _ _ _ _ _ _ _ _ _ _ _ _ _ _ _ _ _ _ _ _ _ _ _ _ _ _ _ _ _ _ _ _ _ _ _ _ _ _ _ _ _ _ _ _ _ _ _ _ _ _ _ _ _ _ _ _ _ _ ?_
  exact HS.out.fn.idle (New.refl _)
set_option maxHeartbeats 8000000 in
set_option maxRecDepth 100000 in
theorem fs_take1 {x1 x2 x3 x4 x6 x8 x11 x12 x13 x14 x15 x16 x17 x18 x19 x20 x21 x22 x23 x24 x25 x26 x27 x28 x29 x30 x31 x32 x33 x34 x35 x36 x37 x38 x39 x40 x41 x42 x43 x44 x45 x46 x47 x48 x49 x50 x51 x52 x53 x54 x55 x56 x57 x58 x59 x61 x62 x63 x64 x65 x66 x67 x68 x69 x70 x71 x72 x73 x74 x75 x76 x77 x78 x79 x80 x81 x82 x83 x84 x85 x86 x87 x88 x89 x90 x91 x92 x93 x94 x95 x96 x97 x98 x99 x100 x101 x102 x103 x104 x105 x106 x107 x108 x109 x110 x111 x112 x113 x114 x115 x116 x117 x118 x119 x120 x121 x122 x123 x124 x125 x126 x127 x128 x129 x130 x131 x132 x133 x134 x135 x136 x137 x138 x139 x140 x141 x142 x143 x144 x145 x146 x147 x148 x149 x150 x151 : Value} {ds : List Deferred} {K : Act → World → Prop} {W : World} {base g bl c0 : Nat} {C : Bool → Nat} {p : Int} {k : Nat} {X : Nat → Prop} {l1 l2 : Ln} {f : Bool → Lit → Option Value} {m : Bool → Nat} {i : Bool} {wv pk kd : Int} {b9 b10 n sc z : Nat} {sA : Option Addr} {xf : Fm}
    (h : SwIn W base g bl c0 C p k X l1 l2 f m i wv pk kd b9 b10 n sc z sA xf) (h0 : 0 < n)
    (hK : ∀ (y4 y12 y13 y14 y15 y61 y62 y63 y64 y65 y66 y67 y68 y69 y70 y71 y72 y73 y74 y75 y76 y77 y78 y79 y80 y81 y82 y83 y84 y85 y86 y87 y88 y89 y90 y91 y92 y93 y94 y95 y96 y97 y98 y99 y100 y101 y102 y103 y104 y105 y106 y107 y108 y109 y110 y111 y112 y113 y114 y115 y116 y117 y118 y119 y120 y121 y122 y123 y124 y125 y126 y127 y128 y129 y130 y131 y132 y133 y134 y135 y136 y137 y138 y139 y140 y141 y142 y143 y144 y145 y146 y147 y148 y149 y150 : Value) (w' : World), FX W base g bl c0 C p k X l1 l2 w' → K ⟨#[.int .i64 p, x1, x2, x3, y4, .pointer (some ⟨g, 0, none⟩), x6, .pointer (some ⟨bl, 0, none⟩), x8, .pointer (some ⟨b9, 0, none⟩), .pointer (some ⟨b10, 0, none⟩), x11, y12, y13, y14, y15, x16, x17, x18, x19, x20, x21, x22, x23, x24, x25, x26, x27, x28, x29, x30, x31, x32, x33, x34, x35, x36, x37, x38, x39, x40, x41, x42, x43, x44, x45, x46, x47, x48, x49, x50, x51, x52, x53, x54, x55, x56, x57, x58, x59, .int .u64 2, y61, y62, y63, y64, y65, y66, y67, y68, y69, y70, y71, y72, y73, y74, y75, y76, y77, y78, y79, y80, y81, y82, y83, y84, y85, y86, y87, y88, y89, y90, y91, y92, y93, y94, y95, y96, y97, y98, y99, y100, y101, y102, y103, y104, y105, y106, y107, y108, y109, y110, y111, y112, y113, y114, y115, y116, y117, y118, y119, y120, y121, y122, y123, y124, y125, y126, y127, y128, y129, y130, y131, y132, y133, y134, y135, y136, y137, y138, y139, y140, y141, y142, y143, y144, y145, y146, y147, y148, y149, y150, x151], ds⟩ w') :
    Code.wp Try.prog fblk (Exit.then K fun _ _ _ => False) ⟨#[.int .i64 p, x1, x2, x3, x4, .pointer (some ⟨g, 0, none⟩), x6, .pointer (some ⟨bl, 0, none⟩), x8, .pointer (some ⟨b9, 0, none⟩), .pointer (some ⟨b10, 0, none⟩), x11, x12, x13, x14, x15, x16, x17, x18, x19, x20, x21, x22, x23, x24, x25, x26, x27, x28, x29, x30, x31, x32, x33, x34, x35, x36, x37, x38, x39, x40, x41, x42, x43, x44, x45, x46, x47, x48, x49, x50, x51, x52, x53, x54, x55, x56, x57, x58, x59, .int .u64 2, x61, x62, x63, x64, x65, x66, x67, x68, x69, x70, x71, x72, x73, x74, x75, x76, x77, x78, x79, x80, x81, x82, x83, x84, x85, x86, x87, x88, x89, x90, x91, x92, x93, x94, x95, x96, x97, x98, x99, x100, x101, x102, x103, x104, x105, x106, x107, x108, x109, x110, x111, x112, x113, x114, x115, x116, x117, x118, x119, x120, x121, x122, x123, x124, x125, x126, x127, x128, x129, x130, x131, x132, x133, x134, x135, x136, x137, x138, x139, x140, x141, x142, x143, x144, x145, x146, x147, x148, x149, x150, x151], ds⟩ W := by
  have HK := Lib.hid hK
  clear hK
  have a1 : W.cell? ⟨b9, 1, none⟩ = some (.int .i64 wv) := h.B9.cell 1
  have a2 : W.cell? ⟨b9, 2, none⟩ = some (.int .u64 pk) := h.B9.cell 2
  have a3 : W.cell? ⟨b9, 3, none⟩ = some (.slice xf.A xf.n xf.c) := h.B9.cell 3
  have e0 : W.cell? ⟨b10, 0, none⟩ = some (.slice sA n sc) := h.B10.cell 0
  obtain ⟨hw0, hw3⟩ := h.wv
  have HS := Lib.hid h
  obtain ⟨HWV⟩ : Nonempty (Hid (wayI i = wv)) := ⟨Lib.hid h.hw.symm⟩
  have HC := Lib.hid (take_in h.fn.nt i pk h.p0 h.p1 (by rw [h.hn]; exact h0))
  rw [HWV.out] at HC
  clear h h0
  conv => arg 2; whnf
  go_wp2_with fail
  refine HC.out.mono ?_
  rintro e w2 ⟨y, l', hy, rfl, hN2, hL2, hlo, hRy, hBy, hF2, hl2⟩
  have b1 := hF2.cell_some a1 (fun e => HS.out.far HS.out.y9 (.inl e))
  have HN2 := Lib.hid hN2
  have HF2 := Lib.hid hF2
  have HLO := Lib.hid hlo
  have HBY := Lib.hid hBy
  have HL2 := Lib.hid hl2
  have hbl2 := HS.out.fn.BL.fr hF2 (fun e => HS.out.fn.apart _ (.inl e) (.inl rfl))
  have am : w2.cell? ⟨bl, wv.toNat, none⟩ = some (.map (some (C i))) := by
    rw [hbl2.cell, HS.out.hw]
    cases i <;> rfl
  have hM2 : MapAt w2 Try.prog 9 (C i) (m i) (f i) := (HS.out.fn.M i).fr hF2 (fun e => HS.out.fn.apart _ (.inl e) (.inr ⟨i, rfl⟩))
  have HM2 : Hid (MapAt w2.drew Try.prog 9 (C i) (m i) (f i)) := Lib.hid hM2
  have hym : y ∈ (sel i l1 l2).L := List.mem_of_getElem? hy
  have hyn := ((HS.out.fn.nt.at i).2.2.reads y hym).2.2
  have hxl : y.xs.length = y.n := by have := hRy.1; rw [u8s_len] at this; omega
  have HKO := Lib.hid (key_of (xs := y.xs) (by omega))
  have hcv := run_conv (c := y.c) (w := w2.drew) hRy
  clear hN2 hF2 hlo hBy hl2 hbl2 hym hyn hxl hRy hy hL2 a1 a2 a3 e0 HC hM2
  obtain ⟨yA, yn, yc, ys⟩ := y
  simp only [Fm.val]
  dsimp only at HLO HBY HKO hcv
  obtain ⟨st, hst⟩ : ∃ st, st = strOfNums ys := ⟨_, rfl⟩
  rw [← hst] at hcv HKO
  clear hst
  go_wp2_with fail
  go_region_law (refine step_mdel HM2.out keyS Try.underlying30 rfl (.tmp 83) (.tmp 85) rfl (by simp [Act.eval, Act.put]) (.string st) (key ys) (by simp [Act.eval, Act.put]) HKO.out ?_; intro w3 hM3 hF3)
  all_goals
    have hF3' : Fr (fun j => j = C i) w2 w3 := Fr.ofDrew hF3
    refine HK.out _ _ _ _ _ _ _ _ _ _ _ _ _ _ _ _ _ _ _ _ _ _ _ _ _ _ _ _ _ _ _ _ _ _ _ _ _ _ _ _ _ _ _ _ _ _ _ _ _ _ _ _ _ _ _ _ _ _ _ _ _ _ _ _ _ _ _ _ _ _ _ _ _ _ _ _ _ _ _ _ _ _ _ _ _ _ _ _ _ _ _ _ _ _ _ _ ?_
    refine HS.out.fn.step i ((HN2.out.fr hF3' ?_ ?_).up (Nat.le_succ _)) ((HF2.out.mono fun _ _ e => .inl e).trans (hF3'.mono fun _ _ e => .inr e)) hM3 (Nat.le_trans (HS.out.fn.mle i) (Nat.le_succ _)) ?_ (fun _ => .inl) (fun j hj => .inl (HL2.out j hj))
    · rintro j rfl hj
      rcases no_put (W := W) hj (fun e => .inl (HL2.out _ e)) with e | e
      · exact HS.out.fn.apart _ (.inl e) (.inr ⟨i, rfl⟩)
      · exact absurd (HS.out.fn.M i).lt (by omega)
    · rintro j rfl hj
      exact HS.out.fn.apart _ (.inr hj) (.inr ⟨i, rfl⟩)
    · intro xs hx
      rw [HLO.out xs]
      exact lost_none (HS.out.fn.cnt i) ys HBY.out xs hx
set_option maxHeartbeats 8000000 in
set_option maxRecDepth 100000 in
theorem fs_lose0 {x1 x2 x3 x4 x6 x8 x11 x12 x13 x14 x15 x16 x17 x18 x19 x20 x21 x22 x23 x24 x25 x26 x27 x28 x29 x30 x31 x32 x33 x34 x35 x36 x37 x38 x39 x40 x41 x42 x43 x44 x45 x46 x47 x48 x49 x50 x51 x52 x53 x54 x55 x56 x57 x58 x59 x61 x62 x63 x64 x65 x66 x67 x68 x69 x70 x71 x72 x73 x74 x75 x76 x77 x78 x79 x80 x81 x82 x83 x84 x85 x86 x87 x88 x89 x90 x91 x92 x93 x94 x95 x96 x97 x98 x99 x100 x101 x102 x103 x104 x105 x106 x107 x108 x109 x110 x111 x112 x113 x114 x115 x116 x117 x118 x119 x120 x121 x122 x123 x124 x125 x126 x127 x128 x129 x130 x131 x132 x133 x134 x135 x136 x137 x138 x139 x140 x141 x142 x143 x144 x145 x146 x147 x148 x149 x150 x151 : Value} {ds : List Deferred} {K : Act → World → Prop} {W : World} {base g bl c0 : Nat} {C : Bool → Nat} {p : Int} {k : Nat} {X : Nat → Prop} {l1 l2 : Ln} {f : Bool → Lit → Option Value} {m : Bool → Nat} {i : Bool} {wv pk kd : Int} {b9 b10 n sc z : Nat} {sA : Option Addr} {xf : Fm}
    (h : SwIn W base g bl c0 C p k X l1 l2 f m i wv pk kd b9 b10 n sc z sA xf) (h0 : n = 0)
    (hK : ∀ (y4 y12 y13 y14 y15 y61 y62 y63 y64 y65 y66 y67 y68 y69 y70 y71 y72 y73 y74 y75 y76 y77 y78 y79 y80 y81 y82 y83 y84 y85 y86 y87 y88 y89 y90 y91 y92 y93 y94 y95 y96 y97 y98 y99 y100 y101 y102 y103 y104 y105 y106 y107 y108 y109 y110 y111 y112 y113 y114 y115 y116 y117 y118 y119 y120 y121 y122 y123 y124 y125 y126 y127 y128 y129 y130 y131 y132 y133 y134 y135 y136 y137 y138 y139 y140 y141 y142 y143 y144 y145 y146 y147 y148 y149 y150 : Value) (w' : World), FX W base g bl c0 C p k X l1 l2 w' → K ⟨#[.int .i64 p, x1, x2, x3, y4, .pointer (some ⟨g, 0, none⟩), x6, .pointer (some ⟨bl, 0, none⟩), x8, .pointer (some ⟨b9, 0, none⟩), .pointer (some ⟨b10, 0, none⟩), x11, y12, y13, y14, y15, x16, x17, x18, x19, x20, x21, x22, x23, x24, x25, x26, x27, x28, x29, x30, x31, x32, x33, x34, x35, x36, x37, x38, x39, x40, x41, x42, x43, x44, x45, x46, x47, x48, x49, x50, x51, x52, x53, x54, x55, x56, x57, x58, x59, .int .u64 3, y61, y62, y63, y64, y65, y66, y67, y68, y69, y70, y71, y72, y73, y74, y75, y76, y77, y78, y79, y80, y81, y82, y83, y84, y85, y86, y87, y88, y89, y90, y91, y92, y93, y94, y95, y96, y97, y98, y99, y100, y101, y102, y103, y104, y105, y106, y107, y108, y109, y110, y111, y112, y113, y114, y115, y116, y117, y118, y119, y120, y121, y122, y123, y124, y125, y126, y127, y128, y129, y130, y131, y132, y133, y134, y135, y136, y137, y138, y139, y140, y141, y142, y143, y144, y145, y146, y147, y148, y149, y150, x151], ds⟩ w') :
    Code.wp Try.prog fblk (Exit.then K fun _ _ _ => False) ⟨#[.int .i64 p, x1, x2, x3, x4, .pointer (some ⟨g, 0, none⟩), x6, .pointer (some ⟨bl, 0, none⟩), x8, .pointer (some ⟨b9, 0, none⟩), .pointer (some ⟨b10, 0, none⟩), x11, x12, x13, x14, x15, x16, x17, x18, x19, x20, x21, x22, x23, x24, x25, x26, x27, x28, x29, x30, x31, x32, x33, x34, x35, x36, x37, x38, x39, x40, x41, x42, x43, x44, x45, x46, x47, x48, x49, x50, x51, x52, x53, x54, x55, x56, x57, x58, x59, .int .u64 3, x61, x62, x63, x64, x65, x66, x67, x68, x69, x70, x71, x72, x73, x74, x75, x76, x77, x78, x79, x80, x81, x82, x83, x84, x85, x86, x87, x88, x89, x90, x91, x92, x93, x94, x95, x96, x97, x98, x99, x100, x101, x102, x103, x104, x105, x106, x107, x108, x109, x110, x111, x112, x113, x114, x115, x116, x117, x118, x119, x120, x121, x122, x123, x124, x125, x126, x127, x128, x129, x130, x131, x132, x133, x134, x135, x136, x137, x138, x139, x140, x141, x142, x143, x144, x145, x146, x147, x148, x149, x150, x151], ds⟩ W := by
  have HK := Lib.hid hK
  clear hK
  have a1 : W.cell? ⟨b9, 1, none⟩ = some (.int .i64 wv) := h.B9.cell 1
  have a2 : W.cell? ⟨b9, 2, none⟩ = some (.int .u64 pk) := h.B9.cell 2
  have a3 : W.cell? ⟨b9, 3, none⟩ = some (.slice xf.A xf.n xf.c) := h.B9.cell 3
  have e0 : W.cell? ⟨b10, 0, none⟩ = some (.slice sA n sc) := h.B10.cell 0
  obtain ⟨hw0, hw3⟩ := h.wv
  have HS := Lib.hid h
  obtain ⟨HWV⟩ : Nonempty (Hid (wayI i = wv)) := ⟨Lib.hid h.hw.symm⟩
  have HC := Lib.hid (lose_none h.fn.nt i pk (List.eq_nil_of_length_eq_zero (by rw [h.hn, h0])))
  rw [HWV.out] at HC
  subst h0
  clear h
  conv => arg 2; whnf
  go_wp2_with fail
  refine HC.out.mono ?_
  rintro e w2 ⟨rfl, rfl⟩
  go_wp2_with fail
  refine (is_some 11 11 _ (by omega)).mono ?_
  rintro e w2 ⟨rfl, rfl⟩
  go_wp2_with fail
  refine HK.out _ _ _ _ _ _ _ _ _ _ _ _ _ _ _ _ _ _ _ _ _ _ _ _ _ _ _ _ _ _ _ _ _ _ _ _ _ _ _ _ _ _ _ _ _ _ _ _ _ _ _ _ _ _ _ _ _ _ _ _ _ _ _ _ _ _ _ _ _ _ _ _ _ _ _ _ _ _ _ _ _ _ _ _ _ _ _ _ _ _ _ _ _ _ _ _ ?_
  exact HS.out.fn.idle (New.refl _)
set_option maxHeartbeats 8000000 in
set_option maxRecDepth 100000 in
theorem fs_lose1 {x1 x2 x3 x4 x6 x8 x11 x12 x13 x14 x15 x16 x17 x18 x19 x20 x21 x22 x23 x24 x25 x26 x27 x28 x29 x30 x31 x32 x33 x34 x35 x36 x37 x38 x39 x40 x41 x42 x43 x44 x45 x46 x47 x48 x49 x50 x51 x52 x53 x54 x55 x56 x57 x58 x59 x61 x62 x63 x64 x65 x66 x67 x68 x69 x70 x71 x72 x73 x74 x75 x76 x77 x78 x79 x80 x81 x82 x83 x84 x85 x86 x87 x88 x89 x90 x91 x92 x93 x94 x95 x96 x97 x98 x99 x100 x101 x102 x103 x104 x105 x106 x107 x108 x109 x110 x111 x112 x113 x114 x115 x116 x117 x118 x119 x120 x121 x122 x123 x124 x125 x126 x127 x128 x129 x130 x131 x132 x133 x134 x135 x136 x137 x138 x139 x140 x141 x142 x143 x144 x145 x146 x147 x148 x149 x150 x151 : Value} {ds : List Deferred} {K : Act → World → Prop} {W : World} {base g bl c0 : Nat} {C : Bool → Nat} {p : Int} {k : Nat} {X : Nat → Prop} {l1 l2 : Ln} {f : Bool → Lit → Option Value} {m : Bool → Nat} {i : Bool} {wv pk kd : Int} {b9 b10 n sc z : Nat} {sA : Option Addr} {xf : Fm}
    (h : SwIn W base g bl c0 C p k X l1 l2 f m i wv pk kd b9 b10 n sc z sA xf) (h0 : 0 < n) (y : Fm) (hy : (sel i l1 l2).L[pk.toNat % n]? = some y) (hsp : (sel i l1 l2).lost y.xs < p - 1)
    (hK : ∀ (y4 y12 y13 y14 y15 y61 y62 y63 y64 y65 y66 y67 y68 y69 y70 y71 y72 y73 y74 y75 y76 y77 y78 y79 y80 y81 y82 y83 y84 y85 y86 y87 y88 y89 y90 y91 y92 y93 y94 y95 y96 y97 y98 y99 y100 y101 y102 y103 y104 y105 y106 y107 y108 y109 y110 y111 y112 y113 y114 y115 y116 y117 y118 y119 y120 y121 y122 y123 y124 y125 y126 y127 y128 y129 y130 y131 y132 y133 y134 y135 y136 y137 y138 y139 y140 y141 y142 y143 y144 y145 y146 y147 y148 y149 y150 : Value) (w' : World), FX W base g bl c0 C p k X l1 l2 w' → K ⟨#[.int .i64 p, x1, x2, x3, y4, .pointer (some ⟨g, 0, none⟩), x6, .pointer (some ⟨bl, 0, none⟩), x8, .pointer (some ⟨b9, 0, none⟩), .pointer (some ⟨b10, 0, none⟩), x11, y12, y13, y14, y15, x16, x17, x18, x19, x20, x21, x22, x23, x24, x25, x26, x27, x28, x29, x30, x31, x32, x33, x34, x35, x36, x37, x38, x39, x40, x41, x42, x43, x44, x45, x46, x47, x48, x49, x50, x51, x52, x53, x54, x55, x56, x57, x58, x59, .int .u64 3, y61, y62, y63, y64, y65, y66, y67, y68, y69, y70, y71, y72, y73, y74, y75, y76, y77, y78, y79, y80, y81, y82, y83, y84, y85, y86, y87, y88, y89, y90, y91, y92, y93, y94, y95, y96, y97, y98, y99, y100, y101, y102, y103, y104, y105, y106, y107, y108, y109, y110, y111, y112, y113, y114, y115, y116, y117, y118, y119, y120, y121, y122, y123, y124, y125, y126, y127, y128, y129, y130, y131, y132, y133, y134, y135, y136, y137, y138, y139, y140, y141, y142, y143, y144, y145, y146, y147, y148, y149, y150, x151], ds⟩ w') :
    Code.wp Try.prog fblk (Exit.then K fun _ _ _ => False) ⟨#[.int .i64 p, x1, x2, x3, x4, .pointer (some ⟨g, 0, none⟩), x6, .pointer (some ⟨bl, 0, none⟩), x8, .pointer (some ⟨b9, 0, none⟩), .pointer (some ⟨b10, 0, none⟩), x11, x12, x13, x14, x15, x16, x17, x18, x19, x20, x21, x22, x23, x24, x25, x26, x27, x28, x29, x30, x31, x32, x33, x34, x35, x36, x37, x38, x39, x40, x41, x42, x43, x44, x45, x46, x47, x48, x49, x50, x51, x52, x53, x54, x55, x56, x57, x58, x59, .int .u64 3, x61, x62, x63, x64, x65, x66, x67, x68, x69, x70, x71, x72, x73, x74, x75, x76, x77, x78, x79, x80, x81, x82, x83, x84, x85, x86, x87, x88, x89, x90, x91, x92, x93, x94, x95, x96, x97, x98, x99, x100, x101, x102, x103, x104, x105, x106, x107, x108, x109, x110, x111, x112, x113, x114, x115, x116, x117, x118, x119, x120, x121, x122, x123, x124, x125, x126, x127, x128, x129, x130, x131, x132, x133, x134, x135, x136, x137, x138, x139, x140, x141, x142, x143, x144, x145, x146, x147, x148, x149, x150, x151], ds⟩ W := by
  have HK := Lib.hid hK
  clear hK
  have a1 : W.cell? ⟨b9, 1, none⟩ = some (.int .i64 wv) := h.B9.cell 1
  have a2 : W.cell? ⟨b9, 2, none⟩ = some (.int .u64 pk) := h.B9.cell 2
  have a3 : W.cell? ⟨b9, 3, none⟩ = some (.slice xf.A xf.n xf.c) := h.B9.cell 3
  have e0 : W.cell? ⟨b10, 0, none⟩ = some (.slice sA n sc) := h.B10.cell 0
  obtain ⟨hw0, hw3⟩ := h.wv
  have HS := Lib.hid h
  obtain ⟨HWV⟩ : Nonempty (Hid (wayI i = wv)) := ⟨Lib.hid h.hw.symm⟩
  have hL6 := (h.fn.nt.at i).2.2.len
  rw [h.hn] at hL6
  have hy' := hy
  rw [← h.hn] at hy'
  have HC := Lib.hid (lose_in h.fn.nt i pk h.p0 h.p1 y (by have := h.k6; omega) hy')
  rw [HWV.out, h.hn] at HC
  obtain ⟨sb, so, rfl, hsz, hsb, hsr⟩ := h.rd.out (by omega) (by omega)
  have hnc := h.nc
  have hp1 := h.fn.nt.p1
  have hp2 := h.fn.nt.p2
  have hym : y ∈ (sel i l1 l2).L := List.mem_of_getElem? hy
  have hyr := (h.fn.nt.at i).2.2.reads y hym
  have hyb := hyr.2.1
  have hxl : y.xs.length ≤ 1000000 := by have := hyr.1.1; rw [u8s_len] at this; have := hyr.2.2; omega
  have hko := key_of hxl
  have hlow := (h.fn.nt.at i).2.2.low y.xs
  have hcnt := h.fn.cnt i y.xs hyb
  have hn0 : ((n : Int) == 0) = false := by simp; omega
  have hwn : IntKind.u64.wrap (n : Int) = n := IntWalk.u64_in _ (by omega)
  have hmod : pk.tmod (n : Int) = ((pk.toNat % n : Nat) : Int) := by
    rw [Int.tmod_eq_emod_of_nonneg HS.out.p0]
    obtain ⟨q, hq⟩ := Int.eq_ofNat_of_zero_le HS.out.p0
    rw [hq]
    simp
  have hlt : pk.toNat % n < n := Nat.mod_lt _ h0
  have hr2 : IntKind.u64.wrap (((pk.toNat % n : Nat) : Int)) = ((pk.toNat % n : Nat) : Int) := IntWalk.u64_in _ (by omega)
  have hr3 : IntKind.i64.wrap (((pk.toNat % n : Nat) : Int)) = ((pk.toNat % n : Nat) : Int) := IntWalk.i64_in _ (by omega)
  have hst : W.cell? ⟨sb, so + pk.toNat % n, none⟩ = some (.string (strOfNums y.xs)) := hsr _ _ (by
    unfold strs
    rw [List.getElem?_map, hy]
    rfl)
  obtain ⟨ls, hls⟩ : ∃ ls, ls = (sel i l1 l2).lost y.xs := ⟨_, rfl⟩
  rw [← hls] at hsp hlow hcnt HC
  have HSP := Lib.hid hsp
  have hspb : decide (ls < p - 1) = true := decide_eq_true hsp
  have hls1 : ls < 63 := by omega
  have HLS := Lib.hid hls
  have HKO := Lib.hid hko
  have HYB := Lib.hid hyb
  have HCNT := Lib.hid hcnt
  have HST := Lib.hid hst
  obtain ⟨hlow0, hlow1⟩ := hlow
  clear hsp hls hy hy' h hsr hym hyr hyb hxl hlow1 hko hcnt hst
  conv => arg 2; whnf
  go_wp2_with fail
  refine HC.out.mono ?_
  rintro e w2 ⟨-, h2⟩
  obtain ⟨rfl, l', hN2, -, hlo, hF2, hl2⟩ := h2 HSP.out
  have b1 := hF2.cell_some a1 (fun e => HS.out.far HS.out.y9 (.inl e))
  have b2 := hF2.cell_some a2 (fun e => HS.out.far HS.out.y9 (.inl e))
  have b0 := hF2.cell_some e0 (fun e => HS.out.far HS.out.y10 (.inl e))
  have bs := hF2.cell_some HST.out (fun e => HS.out.far hsz (.inl e))
  have HN2 := Lib.hid hN2
  have HF2 := Lib.hid hF2
  have HLO := Lib.hid hlo
  have HL2 := Lib.hid hl2
  have hbl2 := HS.out.fn.BL.fr hF2 (fun e => HS.out.fn.apart _ (.inl e) (.inl rfl))
  have am : w2.cell? ⟨bl, wv.toNat, none⟩ = some (.map (some (C i))) := by
    rw [hbl2.cell, HS.out.hw]
    cases i <;> rfl
  have hM2 : MapAt w2 Try.prog 9 (C i) (m i) (f i) := (HS.out.fn.M i).fr hF2 (fun e => HS.out.fn.apart _ (.inl e) (.inr ⟨i, rfl⟩))
  have HM2 : ∀ a q, Hid (MapAt ((w2.drewN a).drewN q) Try.prog 9 (C i) (m i) (f i)) := fun a q => Lib.hid hM2
  have HM3 : ∀ q, Hid (MapAt (w2.drewN q) Try.prog 9 (C i) (m i) (f i)) := fun q => Lib.hid hM2
  have hm6 : m i < 1000000 := by have := HS.out.k6; have := HS.out.fn.mle i; omega
  have hlk : ∀ q, (Instr.lookup 30 (.map (some (C i))) (.string (strOfNums y.xs)) false).run Try.prog (w2.drewN q) = .ok (.int .i64 ls) (w2.drewN q) := fun q => by
    have := ((HM2 0 q).out.look keyS Try.underlying30 (z := .int .i64 0) (by kernel_rfl) HKO.out).2
    rwa [HCNT.out] at this
  have hlk2 : ∀ a q, (Instr.lookup 30 (.map (some (C i))) (.string (strOfNums y.xs)) false).run Try.prog ((w2.drewN a).drewN q) = .ok (.int .i64 ls) ((w2.drewN a).drewN q) := fun a q => by
    have := ((HM2 a q).out.look keyS Try.underlying30 (z := .int .i64 0) (by kernel_rfl) HKO.out).2
    rwa [HCNT.out] at this
  clear hN2 hF2 hlo hl2 hbl2 hM2 a1 a2 a3 e0 HC h2
  generalize hsg : strOfNums y.xs = st at *
  generalize hrg : pk.toNat % n = r at *
  go_wp2_with fail
  go_quiet (fail)
  go_wp2_with fail
  go_quiet (fail)
  go_wp2_with (at_mapUpdate; refine wpList_mstore (HM3 _).out keyS Try.underlying30 (by unfold maxLen; omega) rfl (.tmp 127) (.tmp 128) (.tmp 130) rfl rfl (.string st) (.int .i64 (ls + 1)) (key y.xs) rfl rfl HKO.out ?_; intro w3 hM3 hF3)
  have hF3' : Fr (fun j => j = C i) w2 w3 := Fr.ofDrewN hF3
  refine HK.out _ _ _ _ _ _ _ _ _ _ _ _ _ _ _ _ _ _ _ _ _ _ _ _ _ _ _ _ _ _ _ _ _ _ _ _ _ _ _ _ _ _ _ _ _ _ _ _ _ _ _ _ _ _ _ _ _ _ _ _ _ _ _ _ _ _ _ _ _ _ _ _ _ _ _ _ _ _ _ _ _ _ _ _ _ _ _ _ _ _ _ _ _ _ _ _ ?_
  refine HS.out.fn.step i (HN2.out.fr hF3' ?_ ?_) ((HF2.out.mono fun _ _ e => .inl e).trans (hF3'.mono fun _ _ e => .inr e)) hM3 (by have := HS.out.fn.mle i; omega) ?_ (fun _ => .inl) (fun j hj => .inl (HL2.out j hj))
  · rintro j rfl hj
    rcases no_put (W := W) hj (fun e => .inl (HL2.out _ e)) with e | e
    · exact HS.out.fn.apart _ (.inl e) (.inr ⟨i, rfl⟩)
    · exact absurd (HS.out.fn.M i).lt (by omega)
  · rintro j rfl hj
    exact HS.out.fn.apart _ (.inr hj) (.inr ⟨i, rfl⟩)
  · intro xs hx
    rw [HLO.out xs]
    exact lost_some (HS.out.fn.cnt i) y.xs HYB.out (ls + 1) xs hx
set_option maxHeartbeats 8000000 in
set_option maxRecDepth 100000 in
theorem fs_lose2 {x1 x2 x3 x4 x6 x8 x11 x12 x13 x14 x15 x16 x17 x18 x19 x20 x21 x22 x23 x24 x25 x26 x27 x28 x29 x30 x31 x32 x33 x34 x35 x36 x37 x38 x39 x40 x41 x42 x43 x44 x45 x46 x47 x48 x49 x50 x51 x52 x53 x54 x55 x56 x57 x58 x59 x61 x62 x63 x64 x65 x66 x67 x68 x69 x70 x71 x72 x73 x74 x75 x76 x77 x78 x79 x80 x81 x82 x83 x84 x85 x86 x87 x88 x89 x90 x91 x92 x93 x94 x95 x96 x97 x98 x99 x100 x101 x102 x103 x104 x105 x106 x107 x108 x109 x110 x111 x112 x113 x114 x115 x116 x117 x118 x119 x120 x121 x122 x123 x124 x125 x126 x127 x128 x129 x130 x131 x132 x133 x134 x135 x136 x137 x138 x139 x140 x141 x142 x143 x144 x145 x146 x147 x148 x149 x150 x151 : Value} {ds : List Deferred} {K : Act → World → Prop} {W : World} {base g bl c0 : Nat} {C : Bool → Nat} {p : Int} {k : Nat} {X : Nat → Prop} {l1 l2 : Ln} {f : Bool → Lit → Option Value} {m : Bool → Nat} {i : Bool} {wv pk kd : Int} {b9 b10 n sc z : Nat} {sA : Option Addr} {xf : Fm}
    (h : SwIn W base g bl c0 C p k X l1 l2 f m i wv pk kd b9 b10 n sc z sA xf) (h0 : 0 < n) (y : Fm) (hy : (sel i l1 l2).L[pk.toNat % n]? = some y) (hsp : p - 1 ≤ (sel i l1 l2).lost y.xs)
    (hK : ∀ (y4 y12 y13 y14 y15 y61 y62 y63 y64 y65 y66 y67 y68 y69 y70 y71 y72 y73 y74 y75 y76 y77 y78 y79 y80 y81 y82 y83 y84 y85 y86 y87 y88 y89 y90 y91 y92 y93 y94 y95 y96 y97 y98 y99 y100 y101 y102 y103 y104 y105 y106 y107 y108 y109 y110 y111 y112 y113 y114 y115 y116 y117 y118 y119 y120 y121 y122 y123 y124 y125 y126 y127 y128 y129 y130 y131 y132 y133 y134 y135 y136 y137 y138 y139 y140 y141 y142 y143 y144 y145 y146 y147 y148 y149 y150 : Value) (w' : World), FX W base g bl c0 C p k X l1 l2 w' → K ⟨#[.int .i64 p, x1, x2, x3, y4, .pointer (some ⟨g, 0, none⟩), x6, .pointer (some ⟨bl, 0, none⟩), x8, .pointer (some ⟨b9, 0, none⟩), .pointer (some ⟨b10, 0, none⟩), x11, y12, y13, y14, y15, x16, x17, x18, x19, x20, x21, x22, x23, x24, x25, x26, x27, x28, x29, x30, x31, x32, x33, x34, x35, x36, x37, x38, x39, x40, x41, x42, x43, x44, x45, x46, x47, x48, x49, x50, x51, x52, x53, x54, x55, x56, x57, x58, x59, .int .u64 3, y61, y62, y63, y64, y65, y66, y67, y68, y69, y70, y71, y72, y73, y74, y75, y76, y77, y78, y79, y80, y81, y82, y83, y84, y85, y86, y87, y88, y89, y90, y91, y92, y93, y94, y95, y96, y97, y98, y99, y100, y101, y102, y103, y104, y105, y106, y107, y108, y109, y110, y111, y112, y113, y114, y115, y116, y117, y118, y119, y120, y121, y122, y123, y124, y125, y126, y127, y128, y129, y130, y131, y132, y133, y134, y135, y136, y137, y138, y139, y140, y141, y142, y143, y144, y145, y146, y147, y148, y149, y150, x151], ds⟩ w') :
    Code.wp Try.prog fblk (Exit.then K fun _ _ _ => False) ⟨#[.int .i64 p, x1, x2, x3, x4, .pointer (some ⟨g, 0, none⟩), x6, .pointer (some ⟨bl, 0, none⟩), x8, .pointer (some ⟨b9, 0, none⟩), .pointer (some ⟨b10, 0, none⟩), x11, x12, x13, x14, x15, x16, x17, x18, x19, x20, x21, x22, x23, x24, x25, x26, x27, x28, x29, x30, x31, x32, x33, x34, x35, x36, x37, x38, x39, x40, x41, x42, x43, x44, x45, x46, x47, x48, x49, x50, x51, x52, x53, x54, x55, x56, x57, x58, x59, .int .u64 3, x61, x62, x63, x64, x65, x66, x67, x68, x69, x70, x71, x72, x73, x74, x75, x76, x77, x78, x79, x80, x81, x82, x83, x84, x85, x86, x87, x88, x89, x90, x91, x92, x93, x94, x95, x96, x97, x98, x99, x100, x101, x102, x103, x104, x105, x106, x107, x108, x109, x110, x111, x112, x113, x114, x115, x116, x117, x118, x119, x120, x121, x122, x123, x124, x125, x126, x127, x128, x129, x130, x131, x132, x133, x134, x135, x136, x137, x138, x139, x140, x141, x142, x143, x144, x145, x146, x147, x148, x149, x150, x151], ds⟩ W := by
  have HK := Lib.hid hK
  clear hK
  have a1 : W.cell? ⟨b9, 1, none⟩ = some (.int .i64 wv) := h.B9.cell 1
  have a2 : W.cell? ⟨b9, 2, none⟩ = some (.int .u64 pk) := h.B9.cell 2
  have a3 : W.cell? ⟨b9, 3, none⟩ = some (.slice xf.A xf.n xf.c) := h.B9.cell 3
  have e0 : W.cell? ⟨b10, 0, none⟩ = some (.slice sA n sc) := h.B10.cell 0
  obtain ⟨hw0, hw3⟩ := h.wv
  have HS := Lib.hid h
  obtain ⟨HWV⟩ : Nonempty (Hid (wayI i = wv)) := ⟨Lib.hid h.hw.symm⟩
  have hL6 := (h.fn.nt.at i).2.2.len
  rw [h.hn] at hL6
  have hy' := hy
  rw [← h.hn] at hy'
  have HC := Lib.hid (lose_in h.fn.nt i pk h.p0 h.p1 y (by have := h.k6; omega) hy')
  rw [HWV.out, h.hn] at HC
  obtain ⟨sb, so, rfl, hsz, hsb, hsr⟩ := h.rd.out (by omega) (by omega)
  have hnc := h.nc
  have hp1 := h.fn.nt.p1
  have hp2 := h.fn.nt.p2
  have hym : y ∈ (sel i l1 l2).L := List.mem_of_getElem? hy
  have hyr := (h.fn.nt.at i).2.2.reads y hym
  have hyb := hyr.2.1
  have hxl : y.xs.length ≤ 1000000 := by have := hyr.1.1; rw [u8s_len] at this; have := hyr.2.2; omega
  have hko := key_of hxl
  have hlow := (h.fn.nt.at i).2.2.low y.xs
  have hcnt := h.fn.cnt i y.xs hyb
  have hn0 : ((n : Int) == 0) = false := by simp; omega
  have hwn : IntKind.u64.wrap (n : Int) = n := IntWalk.u64_in _ (by omega)
  have hmod : pk.tmod (n : Int) = ((pk.toNat % n : Nat) : Int) := by
    rw [Int.tmod_eq_emod_of_nonneg HS.out.p0]
    obtain ⟨q, hq⟩ := Int.eq_ofNat_of_zero_le HS.out.p0
    rw [hq]
    simp
  have hlt : pk.toNat % n < n := Nat.mod_lt _ h0
  have hr2 : IntKind.u64.wrap (((pk.toNat % n : Nat) : Int)) = ((pk.toNat % n : Nat) : Int) := IntWalk.u64_in _ (by omega)
  have hr3 : IntKind.i64.wrap (((pk.toNat % n : Nat) : Int)) = ((pk.toNat % n : Nat) : Int) := IntWalk.i64_in _ (by omega)
  have hst : W.cell? ⟨sb, so + pk.toNat % n, none⟩ = some (.string (strOfNums y.xs)) := hsr _ _ (by
    unfold strs
    rw [List.getElem?_map, hy]
    rfl)
  obtain ⟨ls, hls⟩ : ∃ ls, ls = (sel i l1 l2).lost y.xs := ⟨_, rfl⟩
  rw [← hls] at hsp hlow hcnt HC
  have HSP := Lib.hid hsp
  have hspb : decide (ls < p - 1) = false := decide_eq_false (by omega)
  have HLS := Lib.hid hls
  have HKO := Lib.hid hko
  have HCNT := Lib.hid hcnt
  have HST := Lib.hid hst
  obtain ⟨hlow0, hlow1⟩ := hlow
  clear hls hy hy' h hsr hym hyr hyb hxl hlow1 hko hcnt hst
  conv => arg 2; whnf
  go_wp2_with fail
  refine HC.out.mono ?_
  rintro e w2 ⟨h1, -⟩
  obtain ⟨rfl, hN2⟩ := h1 HSP.out
  have b1 := hN2.cell_ a1
  have b2 := hN2.cell_ a2
  have b0 := hN2.cell_ e0
  have bs := hN2.cell_ HST.out
  have HN2 := Lib.hid hN2
  have am : w2.cell? ⟨bl, wv.toNat, none⟩ = some (.map (some (C i))) := by
    rw [(hN2.blk HS.out.fn.BL).cell, HS.out.hw]
    cases i <;> rfl
  have hM2 : MapAt w2 Try.prog 9 (C i) (m i) (f i) := (HS.out.fn.M i).fr (hN2.toFr NoB) (fun x => x)
  have hlk : ∀ q, (Instr.lookup 30 (.map (some (C i))) (.string (strOfNums y.xs)) false).run Try.prog (w2.drewN q) = .ok (.int .i64 ls) (w2.drewN q) := fun q => by
    have hM : MapAt (w2.drewN q) Try.prog 9 (C i) (m i) (f i) := hM2
    have := (hM.look keyS Try.underlying30 (z := .int .i64 0) (by kernel_rfl) HKO.out).2
    rwa [HCNT.out] at this
  have hlen := fun a q => len_in (HS.out.fn.nt.new (New.dn (New.dn hN2 a) q)) i
  rw [HS.out.hn, HWV.out] at hlen
  have ql := fun a q => Calls.quiet_of_same ((hlen a q).mono fun _ _ h => ⟨h.1, h.2.symm⟩)
  simp only [World.drewN_drewN] at ql
  have QL := Lib.hid ql
  have qi := fun a q => Calls.quiet_of_same ((is_some 10 10 ((w2.drewN a).drewN q) (by omega)).mono fun _ _ h => ⟨h.1, h.2.symm⟩)
  simp only [World.drewN_drewN] at qi
  have QI := Lib.hid qi
  clear hN2 hM2 a1 a2 a3 e0 HC h1 hlen ql qi
  generalize hsg : strOfNums y.xs = st at *
  generalize hrg : pk.toNat % n = r at *
  go_wp2_with fail
  go_quiet (fail)
  go_wp2_with fail
  go_quiet (fail)
  go_wp2_with fail
  go_quiet ((first | exact QL.out _ _ | exact QI.out _ _))
  go_wp2_with fail
  refine HK.out _ _ _ _ _ _ _ _ _ _ _ _ _ _ _ _ _ _ _ _ _ _ _ _ _ _ _ _ _ _ _ _ _ _ _ _ _ _ _ _ _ _ _ _ _ _ _ _ _ _ _ _ _ _ _ _ _ _ _ _ _ _ _ _ _ _ _ _ _ _ _ _ _ _ _ _ _ _ _ _ _ _ _ _ _ _ _ _ _ _ _ _ _ _ _ _ ?_
  exact HS.out.fn.idle (New.dn (New.dn HN2.out _) _)
set_option maxHeartbeats 8000000 in
set_option maxRecDepth 100000 in
theorem fs_twice0 {x1 x2 x3 x4 x6 x8 x11 x12 x13 x14 x15 x16 x17 x18 x19 x20 x21 x22 x23 x24 x25 x26 x27 x28 x29 x30 x31 x32 x33 x34 x35 x36 x37 x38 x39 x40 x41 x42 x43 x44 x45 x46 x47 x48 x49 x50 x51 x52 x53 x54 x55 x56 x57 x58 x59 x61 x62 x63 x64 x65 x66 x67 x68 x69 x70 x71 x72 x73 x74 x75 x76 x77 x78 x79 x80 x81 x82 x83 x84 x85 x86 x87 x88 x89 x90 x91 x92 x93 x94 x95 x96 x97 x98 x99 x100 x101 x102 x103 x104 x105 x106 x107 x108 x109 x110 x111 x112 x113 x114 x115 x116 x117 x118 x119 x120 x121 x122 x123 x124 x125 x126 x127 x128 x129 x130 x131 x132 x133 x134 x135 x136 x137 x138 x139 x140 x141 x142 x143 x144 x145 x146 x147 x148 x149 x150 x151 : Value} {ds : List Deferred} {K : Act → World → Prop} {W : World} {base g bl c0 : Nat} {C : Bool → Nat} {p : Int} {k : Nat} {X : Nat → Prop} {l1 l2 : Ln} {f : Bool → Lit → Option Value} {m : Bool → Nat} {i : Bool} {wv pk kd : Int} {b9 b10 n sc z : Nat} {sA : Option Addr} {xf : Fm}
    (h : SwIn W base g bl c0 C p k X l1 l2 f m i wv pk kd b9 b10 n sc z sA xf) (h0 : n = 0)
    (hK : ∀ (y4 y12 y13 y14 y15 y61 y62 y63 y64 y65 y66 y67 y68 y69 y70 y71 y72 y73 y74 y75 y76 y77 y78 y79 y80 y81 y82 y83 y84 y85 y86 y87 y88 y89 y90 y91 y92 y93 y94 y95 y96 y97 y98 y99 y100 y101 y102 y103 y104 y105 y106 y107 y108 y109 y110 y111 y112 y113 y114 y115 y116 y117 y118 y119 y120 y121 y122 y123 y124 y125 y126 y127 y128 y129 y130 y131 y132 y133 y134 y135 y136 y137 y138 y139 y140 y141 y142 y143 y144 y145 y146 y147 y148 y149 y150 : Value) (w' : World), FX W base g bl c0 C p k X l1 l2 w' → K ⟨#[.int .i64 p, x1, x2, x3, y4, .pointer (some ⟨g, 0, none⟩), x6, .pointer (some ⟨bl, 0, none⟩), x8, .pointer (some ⟨b9, 0, none⟩), .pointer (some ⟨b10, 0, none⟩), x11, y12, y13, y14, y15, x16, x17, x18, x19, x20, x21, x22, x23, x24, x25, x26, x27, x28, x29, x30, x31, x32, x33, x34, x35, x36, x37, x38, x39, x40, x41, x42, x43, x44, x45, x46, x47, x48, x49, x50, x51, x52, x53, x54, x55, x56, x57, x58, x59, .int .u64 4, y61, y62, y63, y64, y65, y66, y67, y68, y69, y70, y71, y72, y73, y74, y75, y76, y77, y78, y79, y80, y81, y82, y83, y84, y85, y86, y87, y88, y89, y90, y91, y92, y93, y94, y95, y96, y97, y98, y99, y100, y101, y102, y103, y104, y105, y106, y107, y108, y109, y110, y111, y112, y113, y114, y115, y116, y117, y118, y119, y120, y121, y122, y123, y124, y125, y126, y127, y128, y129, y130, y131, y132, y133, y134, y135, y136, y137, y138, y139, y140, y141, y142, y143, y144, y145, y146, y147, y148, y149, y150, x151], ds⟩ w') :
    Code.wp Try.prog fblk (Exit.then K fun _ _ _ => False) ⟨#[.int .i64 p, x1, x2, x3, x4, .pointer (some ⟨g, 0, none⟩), x6, .pointer (some ⟨bl, 0, none⟩), x8, .pointer (some ⟨b9, 0, none⟩), .pointer (some ⟨b10, 0, none⟩), x11, x12, x13, x14, x15, x16, x17, x18, x19, x20, x21, x22, x23, x24, x25, x26, x27, x28, x29, x30, x31, x32, x33, x34, x35, x36, x37, x38, x39, x40, x41, x42, x43, x44, x45, x46, x47, x48, x49, x50, x51, x52, x53, x54, x55, x56, x57, x58, x59, .int .u64 4, x61, x62, x63, x64, x65, x66, x67, x68, x69, x70, x71, x72, x73, x74, x75, x76, x77, x78, x79, x80, x81, x82, x83, x84, x85, x86, x87, x88, x89, x90, x91, x92, x93, x94, x95, x96, x97, x98, x99, x100, x101, x102, x103, x104, x105, x106, x107, x108, x109, x110, x111, x112, x113, x114, x115, x116, x117, x118, x119, x120, x121, x122, x123, x124, x125, x126, x127, x128, x129, x130, x131, x132, x133, x134, x135, x136, x137, x138, x139, x140, x141, x142, x143, x144, x145, x146, x147, x148, x149, x150, x151], ds⟩ W := by
  have HK := Lib.hid hK
  clear hK
  have a1 : W.cell? ⟨b9, 1, none⟩ = some (.int .i64 wv) := h.B9.cell 1
  have a2 : W.cell? ⟨b9, 2, none⟩ = some (.int .u64 pk) := h.B9.cell 2
  have a3 : W.cell? ⟨b9, 3, none⟩ = some (.slice xf.A xf.n xf.c) := h.B9.cell 3
  have e0 : W.cell? ⟨b10, 0, none⟩ = some (.slice sA n sc) := h.B10.cell 0
  obtain ⟨hw0, hw3⟩ := h.wv
  have HS := Lib.hid h
  obtain ⟨HWV⟩ : Nonempty (Hid (wayI i = wv)) := ⟨Lib.hid h.hw.symm⟩
  have HC := Lib.hid (twice_none h.fn.nt i pk (List.eq_nil_of_length_eq_zero (by rw [h.hn, h0])))
  rw [HWV.out] at HC
  clear h h0
  conv => arg 2; whnf
  go_wp2_with fail
  refine HC.out.mono ?_
  rintro e w2 ⟨rfl, rfl⟩
  go_wp2_with fail
  refine HK.out _ _ _ _ _ _ _ _ _ _ _ _ _ _ _ _ _ _ _ _ _ _ _ _ _ _ _ _ _ _ _ _ _ _ _ _ _ _ _ _ _ _ _ _ _ _ _ _ _ _ _ _ _ _ _ _ _ _ _ _ _ _ _ _ _ _ _ _ _ _ _ _ _ _ _ _ _ _ _ _ _ _ _ _ _ _ _ _ _ _ _ _ _ _ _ _ ?_
  exact HS.out.fn.idle (New.refl _)
set_option maxHeartbeats 8000000 in
set_option maxRecDepth 100000 in
theorem fs_twice1 {x1 x2 x3 x4 x6 x8 x11 x12 x13 x14 x15 x16 x17 x18 x19 x20 x21 x22 x23 x24 x25 x26 x27 x28 x29 x30 x31 x32 x33 x34 x35 x36 x37 x38 x39 x40 x41 x42 x43 x44 x45 x46 x47 x48 x49 x50 x51 x52 x53 x54 x55 x56 x57 x58 x59 x61 x62 x63 x64 x65 x66 x67 x68 x69 x70 x71 x72 x73 x74 x75 x76 x77 x78 x79 x80 x81 x82 x83 x84 x85 x86 x87 x88 x89 x90 x91 x92 x93 x94 x95 x96 x97 x98 x99 x100 x101 x102 x103 x104 x105 x106 x107 x108 x109 x110 x111 x112 x113 x114 x115 x116 x117 x118 x119 x120 x121 x122 x123 x124 x125 x126 x127 x128 x129 x130 x131 x132 x133 x134 x135 x136 x137 x138 x139 x140 x141 x142 x143 x144 x145 x146 x147 x148 x149 x150 x151 : Value} {ds : List Deferred} {K : Act → World → Prop} {W : World} {base g bl c0 : Nat} {C : Bool → Nat} {p : Int} {k : Nat} {X : Nat → Prop} {l1 l2 : Ln} {f : Bool → Lit → Option Value} {m : Bool → Nat} {i : Bool} {wv pk kd : Int} {b9 b10 n sc z : Nat} {sA : Option Addr} {xf : Fm}
    (h : SwIn W base g bl c0 C p k X l1 l2 f m i wv pk kd b9 b10 n sc z sA xf) (y : Fm) (hy : (sel i l1 l2).L[pk.toNat % n]? = some y)
    (hK : ∀ (y4 y12 y13 y14 y15 y61 y62 y63 y64 y65 y66 y67 y68 y69 y70 y71 y72 y73 y74 y75 y76 y77 y78 y79 y80 y81 y82 y83 y84 y85 y86 y87 y88 y89 y90 y91 y92 y93 y94 y95 y96 y97 y98 y99 y100 y101 y102 y103 y104 y105 y106 y107 y108 y109 y110 y111 y112 y113 y114 y115 y116 y117 y118 y119 y120 y121 y122 y123 y124 y125 y126 y127 y128 y129 y130 y131 y132 y133 y134 y135 y136 y137 y138 y139 y140 y141 y142 y143 y144 y145 y146 y147 y148 y149 y150 : Value) (w' : World), FX W base g bl c0 C p k X l1 l2 w' → K ⟨#[.int .i64 p, x1, x2, x3, y4, .pointer (some ⟨g, 0, none⟩), x6, .pointer (some ⟨bl, 0, none⟩), x8, .pointer (some ⟨b9, 0, none⟩), .pointer (some ⟨b10, 0, none⟩), x11, y12, y13, y14, y15, x16, x17, x18, x19, x20, x21, x22, x23, x24, x25, x26, x27, x28, x29, x30, x31, x32, x33, x34, x35, x36, x37, x38, x39, x40, x41, x42, x43, x44, x45, x46, x47, x48, x49, x50, x51, x52, x53, x54, x55, x56, x57, x58, x59, .int .u64 4, y61, y62, y63, y64, y65, y66, y67, y68, y69, y70, y71, y72, y73, y74, y75, y76, y77, y78, y79, y80, y81, y82, y83, y84, y85, y86, y87, y88, y89, y90, y91, y92, y93, y94, y95, y96, y97, y98, y99, y100, y101, y102, y103, y104, y105, y106, y107, y108, y109, y110, y111, y112, y113, y114, y115, y116, y117, y118, y119, y120, y121, y122, y123, y124, y125, y126, y127, y128, y129, y130, y131, y132, y133, y134, y135, y136, y137, y138, y139, y140, y141, y142, y143, y144, y145, y146, y147, y148, y149, y150, x151], ds⟩ w') :
    Code.wp Try.prog fblk (Exit.then K fun _ _ _ => False) ⟨#[.int .i64 p, x1, x2, x3, x4, .pointer (some ⟨g, 0, none⟩), x6, .pointer (some ⟨bl, 0, none⟩), x8, .pointer (some ⟨b9, 0, none⟩), .pointer (some ⟨b10, 0, none⟩), x11, x12, x13, x14, x15, x16, x17, x18, x19, x20, x21, x22, x23, x24, x25, x26, x27, x28, x29, x30, x31, x32, x33, x34, x35, x36, x37, x38, x39, x40, x41, x42, x43, x44, x45, x46, x47, x48, x49, x50, x51, x52, x53, x54, x55, x56, x57, x58, x59, .int .u64 4, x61, x62, x63, x64, x65, x66, x67, x68, x69, x70, x71, x72, x73, x74, x75, x76, x77, x78, x79, x80, x81, x82, x83, x84, x85, x86, x87, x88, x89, x90, x91, x92, x93, x94, x95, x96, x97, x98, x99, x100, x101, x102, x103, x104, x105, x106, x107, x108, x109, x110, x111, x112, x113, x114, x115, x116, x117, x118, x119, x120, x121, x122, x123, x124, x125, x126, x127, x128, x129, x130, x131, x132, x133, x134, x135, x136, x137, x138, x139, x140, x141, x142, x143, x144, x145, x146, x147, x148, x149, x150, x151], ds⟩ W := by
  have HK := Lib.hid hK
  clear hK
  have a1 : W.cell? ⟨b9, 1, none⟩ = some (.int .i64 wv) := h.B9.cell 1
  have a2 : W.cell? ⟨b9, 2, none⟩ = some (.int .u64 pk) := h.B9.cell 2
  have a3 : W.cell? ⟨b9, 3, none⟩ = some (.slice xf.A xf.n xf.c) := h.B9.cell 3
  have e0 : W.cell? ⟨b10, 0, none⟩ = some (.slice sA n sc) := h.B10.cell 0
  obtain ⟨hw0, hw3⟩ := h.wv
  have HS := Lib.hid h
  obtain ⟨HWV⟩ : Nonempty (Hid (wayI i = wv)) := ⟨Lib.hid h.hw.symm⟩
  have hy' := hy
  rw [← h.hn] at hy'
  have HC := Lib.hid (twice_in h.fn.nt i pk h.p0 h.p1 y hy')
  rw [HWV.out] at HC
  clear h hy hy'
  by_cases hf : 256 ≤ (sel i l1 l2).L.length
  · have HL := Lib.hid hf
    clear hf
    conv => arg 2; whnf
    go_wp2_with fail
    refine HC.out.mono ?_
    rintro e w2 ⟨h1, -⟩
    obtain ⟨rfl, hN2⟩ := h1 HL.out
    clear h1
    have HN2 := Lib.hid hN2
    clear hN2
    go_wp2_with fail
    refine HK.out _ _ _ _ _ _ _ _ _ _ _ _ _ _ _ _ _ _ _ _ _ _ _ _ _ _ _ _ _ _ _ _ _ _ _ _ _ _ _ _ _ _ _ _ _ _ _ _ _ _ _ _ _ _ _ _ _ _ _ _ _ _ _ _ _ _ _ _ _ _ _ _ _ _ _ _ _ _ _ _ _ _ _ _ _ _ _ _ _ _ _ _ _ _ _ _ ?_
    exact HS.out.fn.idle HN2.out
  · have HL : Hid ((sel i l1 l2).L.length < 256) := Lib.hid (by omega)
    clear hf
    conv => arg 2; whnf
    go_wp2_with fail
    refine HC.out.mono ?_
    rintro e w2 ⟨-, h2⟩
    obtain ⟨rfl, X', l', hN2, -, hlo, hF2, hX2, hl2⟩ := h2 HL.out
    have HN2 := Lib.hid hN2
    have HLO := Lib.hid hlo
    have HF2 := Lib.hid hF2
    have HX2 := Lib.hid hX2
    have HL2 := Lib.hid hl2
    clear h2 hN2 hlo hF2 hX2 hl2
    go_wp2_with fail
    refine HK.out _ _ _ _ _ _ _ _ _ _ _ _ _ _ _ _ _ _ _ _ _ _ _ _ _ _ _ _ _ _ _ _ _ _ _ _ _ _ _ _ _ _ _ _ _ _ _ _ _ _ _ _ _ _ _ _ _ _ _ _ _ _ _ _ _ _ _ _ _ _ _ _ _ _ _ _ _ _ _ _ _ _ _ _ _ _ _ _ _ _ _ _ _ _ _ _ ?_
    refine HS.out.fn.step i (HN2.out.up (Nat.le_succ _)) (HF2.out.mono fun _ _ e => .inl e) ((HS.out.fn.M i).fr HF2.out (fun e => HS.out.fn.apart _ (.inl e) (.inr ⟨i, rfl⟩))) (Nat.le_trans (HS.out.fn.mle i) (Nat.le_succ _)) ?_ HX2.out HL2.out
    rw [HLO.out]
    exact HS.out.fn.cnt i
set_option maxHeartbeats 8000000 in
set_option maxRecDepth 100000 in
theorem fs_send {x1 x2 x3 x4 x6 x8 x11 x12 x13 x14 x15 x16 x17 x18 x19 x20 x21 x22 x23 x24 x25 x26 x27 x28 x29 x30 x31 x32 x33 x34 x35 x36 x37 x38 x39 x40 x41 x42 x43 x44 x45 x46 x47 x48 x49 x50 x51 x52 x53 x54 x55 x56 x57 x58 x59 x61 x62 x63 x64 x65 x66 x67 x68 x69 x70 x71 x72 x73 x74 x75 x76 x77 x78 x79 x80 x81 x82 x83 x84 x85 x86 x87 x88 x89 x90 x91 x92 x93 x94 x95 x96 x97 x98 x99 x100 x101 x102 x103 x104 x105 x106 x107 x108 x109 x110 x111 x112 x113 x114 x115 x116 x117 x118 x119 x120 x121 x122 x123 x124 x125 x126 x127 x128 x129 x130 x131 x132 x133 x134 x135 x136 x137 x138 x139 x140 x141 x142 x143 x144 x145 x146 x147 x148 x149 x150 x151 : Value} {ds : List Deferred} {K : Act → World → Prop} {W : World} {base g bl c0 : Nat} {C : Bool → Nat} {p : Int} {k : Nat} {X : Nat → Prop} {l1 l2 : Ln} {f : Bool → Lit → Option Value} {m : Bool → Nat} {i : Bool} {wv pk kd : Int} {b9 b10 n sc z : Nat} {sA : Option Addr} {xf : Fm}
    (h : SwIn W base g bl c0 C p k X l1 l2 f m i wv pk kd b9 b10 n sc z sA xf) (rr : Int) (hr2 : (rr == 2) = false) (hr3 : (rr == 3) = false) (hr4 : (rr == 4) = false)
    (hK : ∀ (y4 y12 y13 y14 y15 y61 y62 y63 y64 y65 y66 y67 y68 y69 y70 y71 y72 y73 y74 y75 y76 y77 y78 y79 y80 y81 y82 y83 y84 y85 y86 y87 y88 y89 y90 y91 y92 y93 y94 y95 y96 y97 y98 y99 y100 y101 y102 y103 y104 y105 y106 y107 y108 y109 y110 y111 y112 y113 y114 y115 y116 y117 y118 y119 y120 y121 y122 y123 y124 y125 y126 y127 y128 y129 y130 y131 y132 y133 y134 y135 y136 y137 y138 y139 y140 y141 y142 y143 y144 y145 y146 y147 y148 y149 y150 : Value) (w' : World), FX W base g bl c0 C p k X l1 l2 w' → K ⟨#[.int .i64 p, x1, x2, x3, y4, .pointer (some ⟨g, 0, none⟩), x6, .pointer (some ⟨bl, 0, none⟩), x8, .pointer (some ⟨b9, 0, none⟩), .pointer (some ⟨b10, 0, none⟩), x11, y12, y13, y14, y15, x16, x17, x18, x19, x20, x21, x22, x23, x24, x25, x26, x27, x28, x29, x30, x31, x32, x33, x34, x35, x36, x37, x38, x39, x40, x41, x42, x43, x44, x45, x46, x47, x48, x49, x50, x51, x52, x53, x54, x55, x56, x57, x58, x59, .int .u64 rr, y61, y62, y63, y64, y65, y66, y67, y68, y69, y70, y71, y72, y73, y74, y75, y76, y77, y78, y79, y80, y81, y82, y83, y84, y85, y86, y87, y88, y89, y90, y91, y92, y93, y94, y95, y96, y97, y98, y99, y100, y101, y102, y103, y104, y105, y106, y107, y108, y109, y110, y111, y112, y113, y114, y115, y116, y117, y118, y119, y120, y121, y122, y123, y124, y125, y126, y127, y128, y129, y130, y131, y132, y133, y134, y135, y136, y137, y138, y139, y140, y141, y142, y143, y144, y145, y146, y147, y148, y149, y150, x151], ds⟩ w') :
    Code.wp Try.prog fblk (Exit.then K fun _ _ _ => False) ⟨#[.int .i64 p, x1, x2, x3, x4, .pointer (some ⟨g, 0, none⟩), x6, .pointer (some ⟨bl, 0, none⟩), x8, .pointer (some ⟨b9, 0, none⟩), .pointer (some ⟨b10, 0, none⟩), x11, x12, x13, x14, x15, x16, x17, x18, x19, x20, x21, x22, x23, x24, x25, x26, x27, x28, x29, x30, x31, x32, x33, x34, x35, x36, x37, x38, x39, x40, x41, x42, x43, x44, x45, x46, x47, x48, x49, x50, x51, x52, x53, x54, x55, x56, x57, x58, x59, .int .u64 rr, x61, x62, x63, x64, x65, x66, x67, x68, x69, x70, x71, x72, x73, x74, x75, x76, x77, x78, x79, x80, x81, x82, x83, x84, x85, x86, x87, x88, x89, x90, x91, x92, x93, x94, x95, x96, x97, x98, x99, x100, x101, x102, x103, x104, x105, x106, x107, x108, x109, x110, x111, x112, x113, x114, x115, x116, x117, x118, x119, x120, x121, x122, x123, x124, x125, x126, x127, x128, x129, x130, x131, x132, x133, x134, x135, x136, x137, x138, x139, x140, x141, x142, x143, x144, x145, x146, x147, x148, x149, x150, x151], ds⟩ W := by
  have HK := Lib.hid hK
  clear hK
  have a1 : W.cell? ⟨b9, 1, none⟩ = some (.int .i64 wv) := h.B9.cell 1
  have a2 : W.cell? ⟨b9, 2, none⟩ = some (.int .u64 pk) := h.B9.cell 2
  have a3 : W.cell? ⟨b9, 3, none⟩ = some (.slice xf.A xf.n xf.c) := h.B9.cell 3
  have e0 : W.cell? ⟨b10, 0, none⟩ = some (.slice sA n sc) := h.B10.cell 0
  obtain ⟨hw0, hw3⟩ := h.wv
  have HS := Lib.hid h
  obtain ⟨HWV⟩ : Nonempty (Hid (wayI i = wv)) := ⟨Lib.hid h.hw.symm⟩
  have HCF := Lib.hid (fun hl => send_full h.fn.nt i (.slice xf.A xf.n xf.c) hl)
  have HCI := Lib.hid (fun hl => send_in h.fn.nt i xf.A xf.n xf.c xf.xs h.q h.qb (by have := h.qn; omega) hl)
  rw [HWV.out] at HCF HCI
  clear h
  by_cases hf : 256 ≤ (sel i l1 l2).L.length
  · have HL := Lib.hid hf
    clear hf
    conv => arg 2; whnf
    go_wp2_with fail
    refine (HCF.out HL.out).mono ?_
    rintro e w2 ⟨rfl, rfl⟩
    go_wp2_with fail
    refine HK.out _ _ _ _ _ _ _ _ _ _ _ _ _ _ _ _ _ _ _ _ _ _ _ _ _ _ _ _ _ _ _ _ _ _ _ _ _ _ _ _ _ _ _ _ _ _ _ _ _ _ _ _ _ _ _ _ _ _ _ _ _ _ _ _ _ _ _ _ _ _ _ _ _ _ _ _ _ _ _ _ _ _ _ _ _ _ _ _ _ _ _ _ _ _ _ _ ?_
    exact HS.out.fn.idle (New.refl _)
  · have HL : Hid ((sel i l1 l2).L.length < 256) := Lib.hid (by omega)
    clear hf
    conv => arg 2; whnf
    go_wp2_with fail
    refine (HCI.out HL.out).mono ?_
    rintro e w2 ⟨rfl, X', l', hN2, -, hlo, hF2, hX2, hl2⟩
    have HN2 := Lib.hid hN2
    have HLO := Lib.hid hlo
    have HF2 := Lib.hid hF2
    have HX2 := Lib.hid hX2
    have HL2 := Lib.hid hl2
    clear hN2 hlo hF2 hX2 hl2
    go_wp2_with fail
    refine HK.out _ _ _ _ _ _ _ _ _ _ _ _ _ _ _ _ _ _ _ _ _ _ _ _ _ _ _ _ _ _ _ _ _ _ _ _ _ _ _ _ _ _ _ _ _ _ _ _ _ _ _ _ _ _ _ _ _ _ _ _ _ _ _ _ _ _ _ _ _ _ _ _ _ _ _ _ _ _ _ _ _ _ _ _ _ _ _ _ _ _ _ _ _ _ _ _ ?_
    refine HS.out.fn.step i (HN2.out.up (Nat.le_succ _)) (HF2.out.mono fun _ _ e => .inl e) ((HS.out.fn.M i).fr HF2.out (fun e => HS.out.fn.apart _ (.inl e) (.inr ⟨i, rfl⟩))) (Nat.le_trans (HS.out.fn.mle i) (Nat.le_succ _)) ?_ HX2.out HL2.out
    rw [HLO.out]
    exact HS.out.fn.cnt i
end Go.Proofs.Ytajoahhjgloefaa
