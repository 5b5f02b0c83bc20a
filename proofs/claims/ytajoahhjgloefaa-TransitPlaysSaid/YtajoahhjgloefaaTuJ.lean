/- TransitPlays: what its loop holds, and the cases of its switch. (mkplays.py writes this text.) No condition. -/
import Derived.Test.YtajoahhjgloefaaTuI
import Derived.Test.YtajoahhjgloefaaTrK
import Derived.Test.YtajoahhjgloefaaRngB
import Derived.Deep.CutRange
import Derived.Deep.CutBlock
namespace Go.Proofs.Ytajoahhjgloefaa
open Go.RowKit Go.Maps

def findP (p : Code → Bool) (c : Code) : Option Code :=
  if p c then some c else match c with
  | .seq a b => match findP p a with
    | some c => some c
    | none => findP p b
  | .block _ c => findP p c
  | .scope c => findP p c
  | .loop c => findP p c
  | .cond _ a b => match findP p a with
    | some c => some c
    | none => findP p b
  | _ => none
def isBlkP (n : Nat) : Code → Bool | .block m _ => m == n | _ => false
def isLoopP : Code → Bool | .loop _ => true | _ => false
def isRegP (n : Nat) : Code → Bool | .region m _ _ => m == n | _ => false
def loopOfP : Code → Code | .loop c => c | _ => .skip

noncomputable def pblk : Code := (Try.f5.body.bind (findP (isBlkP 2))).getD .skip
/-- Both nets beside each other. -/
structure PS (w : World) (base g b7 : Nat) (p : Int) (N : Nat) (W : World) (X : Nat → Prop) (l1 l2 : Ln) (P : Nat → Prop) (sN sR : Ms) (cs : Array Value) : Prop where
  nr : NRep X l1 l2 W base g p N sN
  rr : RRep P W p N sR (.agg cs)
  B7 : Blk W b7 54 cs
  sep : ∀ k, P k → k < W.heap.size ∧ ¬ No g l1 l2 k ∧ k ≠ b7
  old : ∀ k, k < w.heap.size → P k
  no7 : ¬ No g l1 l2 b7 ∧ ¬ X b7
  h7 : w.heap.size ≤ b7
  hb : w.heap.size ≤ base
  new : New w W
section
variable {w W W' : World} {base g b7 : Nat} {p : Int} {N : Nat} {X : Nat → Prop} {l1 l2 : Ln} {P : Nat → Prop} {sN sR s' : Ms} {cs cs' : Array Value}
theorem PS.keep (h : PS w base g b7 p N W X l1 l2 P sN sR cs) (hN : New W W') : PS w base g b7 p N W' X l1 l2 P sN sR cs :=
  ⟨h.nr.new hN, h.rr.new hN, hN.blk h.B7, fun k hk => ⟨Nat.lt_of_lt_of_le (h.sep k hk).1 hN.size, (h.sep k hk).2⟩, h.old, h.no7, h.h7, h.hb, h.new.tr hN⟩
theorem PS.more {M : Nat} (h : PS w base g b7 p N W X l1 l2 P sN sR cs) (hm : N ≤ M) : PS w base g b7 p M W X l1 l2 P sN sR cs :=
  ⟨h.nr.more hm, h.rr.more hm, h.B7, h.sep, h.old, h.no7, h.h7, h.hb, h.new⟩
/-- A call on the program's side. -/
theorem PS.prog {M : Nat} (h : PS w base g b7 p N W X l1 l2 P sN sR cs) (hm : N ≤ M) (hs : NStep X l1 l2 W base g p M s' W') : ∃ X' l1' l2', PS w base g b7 p M W' X' l1' l2' P s' sR cs ∧ (∀ k, No g l1' l2' k → No g l1 l2 k ∨ W.heap.size ≤ k) ∧ ∀ k, X' k → X k ∨ W.heap.size ≤ k := by
  obtain ⟨X', l1', l2', hn, hF, hno, hX⟩ := hs
  have hsz := hF.size
  refine ⟨X', l1', l2', ⟨hn, (h.rr.more hm).fr hF (fun k hk => (h.sep k hk).2.1), h.B7.fr hF h.no7.1, fun k hk => ⟨Nat.lt_of_lt_of_le (h.sep k hk).1 hsz, fun e => ?_, (h.sep k hk).2.2⟩, h.old, ⟨fun e => ?_, fun e => ?_⟩, h.h7, h.hb, h.new.fr hF (fun k hk => Nat.le_trans h.hb (h.nr.nt.ours hk).1)⟩, hno, hX⟩
  · rcases hno k e with h1 | h1
    · exact (h.sep k hk).2.1 h1
    · have := (h.sep k hk).1; omega
  · rcases hno _ e with h1 | h1
    · exact h.no7.1 h1
    · have := h.B7.lt; omega
  · rcases hX _ e with h1 | h1
    · exact h.no7.2 h1
    · have := h.B7.lt; omega
/-- A call on the document's side, and the store of what it hands back. -/
theorem PS.doc {M : Nat} {W2 : World} (h : PS w base g b7 p N W X l1 l2 P sN sR cs) (hm : N ≤ M) (hr : RRep (fun k => P k ∨ W.heap.size ≤ k) W' p M s' (.agg cs')) (hN : New W W') (hB : Blk W2 b7 54 cs') (hF : Fr (fun k => k = b7) W' W2) :
    PS w base g b7 p M W2 X l1 l2 (fun k => P k ∨ (W.heap.size ≤ k ∧ k < W'.heap.size)) sN s' cs' := by
  have hs := hN.size
  have hs2 := hF.size
  have h7 := h.B7.lt
  obtain ⟨a, b, e, ha, hb, r⟩ := hr.ex
  have hr' : RRep (fun k => P k ∨ (W.heap.size ≤ k ∧ k < W'.heap.size)) W' p M s' (.agg cs') := by
    refine ⟨a, b, e, ha.lt.imp ?_, hb.lt.imp ?_, r⟩
    · rintro k ⟨h1 | h1, h2⟩
      · exact .inl h1
      · exact .inr ⟨h1, h2⟩
    · rintro k ⟨h1 | h1, h2⟩
      · exact .inl h1
      · exact .inr ⟨h1, h2⟩
  have hk7 : ∀ k, (P k ∨ (W.heap.size ≤ k ∧ k < W'.heap.size)) → k ≠ b7 := by
    rintro k (h1 | h1)
    · exact (h.sep k h1).2.2
    · omega
  have hnr := (h.nr.new hN).more hm
  refine ⟨⟨hnr.nt.fr hF (fun k e => by rw [e]; exact h.no7.1) (fun k e => by rw [e]; exact h.no7.2), hnr.eF, hnr.eT⟩, hr'.fr hF hk7, hB, fun k hk => ⟨?_, ?_, hk7 k hk⟩, fun k hk => .inl (h.old k hk), h.no7, h.h7, h.hb, (h.new.tr hN).fr hF (fun k e => by rw [e]; exact h.h7)⟩
  · rcases hk with h1 | h1
    · have := (h.sep k h1).1; omega
    · omega
  · rcases hk with h1 | h1
    · exact (h.sep k h1).2.1
    · intro e
      have := (h.nr.nt.ours e).2
      omega
/-- A store elsewhere. -/
theorem PS.away {S : Nat → Prop} (h : PS w base g b7 p N W X l1 l2 P sN sR cs) (hF : Fr S W W') (h1 : ∀ k, S k → ¬ No g l1 l2 k ∧ ¬ X k ∧ ¬ P k ∧ k ≠ b7 ∧ w.heap.size ≤ k) : PS w base g b7 p N W' X l1 l2 P sN sR cs :=
  ⟨⟨h.nr.nt.fr hF (fun k hk => (h1 k hk).1) (fun k hk => (h1 k hk).2.1), h.nr.eF, h.nr.eT⟩, h.rr.fr hF (fun k hk hs => (h1 k hs).2.2.1 hk), h.B7.fr hF (fun hs => (h1 _ hs).2.2.2.1 rfl),
    fun k hk => ⟨Nat.lt_of_lt_of_le (h.sep k hk).1 hF.size, (h.sep k hk).2⟩, h.old, h.no7, h.h7, h.hb, h.new.fr hF (fun k hk => (h1 k hk).2.2.2.2)⟩
end
/-- What a case of the switch finds. -/
structure PwIn (w : World) (base g b7 b9 : Nat) (p : Int) (N : Nat) (W : World) (X : Nat → Prop) (l1 l2 : Ln) (P : Nat → Prop) (s : Ms) (cs : Array Value) (ac : Ac) : Prop where
  ps : PS w base g b7 p N W X l1 l2 P s s cs
  hN : N ≤ 2000
  p0 : 0 ≤ p
  p1 : p ≤ 64
  B9 : Blk W b9 35 #[.int .i64 ac.kd, .int .i64 ac.way, .int .u64 ac.pk, .slice ac.x.A ac.x.n ac.x.c]
  h9 : w.heap.size ≤ b9 ∧ ¬ No g l1 l2 b9 ∧ b9 ≠ b7
  k0 : 0 ≤ ac.pk
  k1 : ac.pk < 18446744073709551616
  rd : Rd (fun b => b < w.heap.size) W 1 ac.x.A ac.x.n (u8s ac.x.xs)
  byt : Byt ac.x.xs
  nn : ac.x.n ≤ 1000
/-- What a case of the switch leaves. -/
def PX (w : World) (base g b7 b9 : Nat) (p : Int) (N : Nat) (ac : Ac) (bad : Int) (W : World) : Prop :=
  0 ≤ bad ∧ Blk W b9 35 #[.int .i64 ac.kd, .int .i64 ac.way, .int .u64 ac.pk, .slice ac.x.A ac.x.n ac.x.c] ∧ ∃ X l1 l2 P s cs, PS w base g b7 p (N + 2) W X l1 l2 P s s cs
theorem mSend_nn (s : Ms) (a : Int) (xs : List Int) : 0 ≤ (mSend s a xs).2 := by
  unfold mSend
  split
  · show (0 : Int) ≤ 2; decide
  · split
    · show (0 : Int) ≤ 0; decide
    · show (0 : Int) ≤ 12; decide
theorem mTake_nn (s : Ms) (a k : Int) : 0 ≤ (mTake s a k).2.2 := by
  unfold mTake
  split
  · show (0 : Int) ≤ 2; decide
  · split
    · show (0 : Int) ≤ 11; decide
    · show (0 : Int) ≤ 0; decide
theorem mLose_nn (p : Int) (s : Ms) (a k : Int) : 0 ≤ (mLose p s a k).2 := by
  unfold mLose
  split
  · show (0 : Int) ≤ 2; decide
  · split
    · show (0 : Int) ≤ 11; decide
    · split
      · show (0 : Int) ≤ 0; decide
      · show (0 : Int) ≤ 10; decide
theorem mTwice_nn (s : Ms) (a k : Int) : 0 ≤ (mTwice s a k).2 := by
  unfold mTwice
  split
  · show (0 : Int) ≤ 2; decide
  · split
    · show (0 : Int) ≤ 11; decide
    · split
      · show (0 : Int) ≤ 0; decide
      · show (0 : Int) ≤ 12; decide
theorem rnv_agg {P : Nat → Prop} {W : World} {p : Int} {M : Nat} {s : Ms} {v : Value} (h : RRep P W p M s v) : ∃ a b : Rl, v = .agg #[.int .i64 p, .slice a.A a.n a.c, .slice a.B a.m a.d, .slice b.A b.n b.c, .slice b.B b.m b.d] := by
  obtain ⟨a, b, rfl, -⟩ := h.ex
  exact ⟨a, b, rfl⟩
set_option maxHeartbeats 16000000 in
set_option maxRecDepth 100000 in
theorem ps_take {x1 x2 x3 x4 x6 x8 x11 x12 x13 x14 x15 x16 x17 x18 x19 x20 x21 x22 x23 x24 x25 x26 x27 x28 x29 x30 x31 x32 x33 x34 x35 x36 x37 x38 x39 x40 x41 x42 x43 x44 x45 x46 x47 x48 x49 x50 x51 x53 x54 x55 x56 x57 x58 x59 x60 x61 x62 x63 x64 x65 x66 x67 x68 x69 x70 x71 x72 x73 x74 x75 x76 x77 x78 x79 x80 x81 x82 x83 x84 x85 x86 x87 x88 x89 x90 x91 x92 x93 x94 x95 x96 x97 x98 x99 x100 x101 x102 x103 x104 x105 x106 x107 x108 x109 x110 x111 x112 x113 x114 x115 x116 x117 x118 x119 x120 x121 x122 x123 x124 x125 x126 x127 x128 x129 x130 x131 x132 x133 x134 x135 x136 x137 x138 x139 x140 x141 x142 x143 x144 x145 x146 x147 x148 x149 x150 x151 x152 x153 x154 x155 x156 x157 x158 x159 x160 x161 x162 x163 x164 x165 x166 x167 x168 x169 x170 x171 x172 x173 x174 x175 x176 x177 x178 x179 x180 x181 x182 x183 x184 x185 x186 x187 x188 x189 x190 x191 x192 x193 x194 : Value} {K : Act → World → Prop} {w W : World} {base g b7 b9 : Nat} {p : Int} {N : Nat} {X : Nat → Prop} {l1 l2 : Ln} {P : Nat → Prop} {s : Ms} {cs : Array Value} {ac : Ac}
    (h : PwIn w base g b7 b9 p N W X l1 l2 P s cs ac)
    (hK : ∀ (bad : Int) (y4 y11 y12 y13 y14 y15 y16 y17 y53 y54 y55 y56 y57 y58 y59 y60 y61 y62 y63 y64 y65 y66 y67 y68 y69 y70 y71 y72 y73 y74 y75 y76 y77 y78 y79 y80 y81 y82 y83 y84 y85 y86 y87 y88 y89 y90 y91 y92 y93 y94 y95 y96 y97 y98 y99 y100 y101 y102 y103 y104 y105 y106 y107 y108 y109 y110 y111 y112 y113 y114 y115 y116 y117 y118 y119 y120 y121 y122 y123 y124 y125 y126 y127 y128 y129 y130 y131 y132 y133 y134 y135 y136 y137 y138 y139 y140 y141 y142 y143 y144 : Value) (w' : World), PX w base g b7 b9 p N ac bad w' → K ⟨#[.int .i64 p, x1, x2, x3, y4, .pointer (some ⟨g, 0, none⟩), errV bad, .pointer (some ⟨b7, 0, none⟩), x8, .pointer (some ⟨b9, 0, none⟩), .int .i64 bad, y11, y12, y13, y14, y15, y16, y17, x18, x19, x20, x21, x22, x23, x24, x25, x26, x27, x28, x29, x30, x31, x32, x33, x34, x35, x36, x37, x38, x39, x40, x41, x42, x43, x44, x45, x46, x47, x48, x49, x50, x51, .int .u64 2, y53, y54, y55, y56, y57, y58, y59, y60, y61, y62, y63, y64, y65, y66, y67, y68, y69, y70, y71, y72, y73, y74, y75, y76, y77, y78, y79, y80, y81, y82, y83, y84, y85, y86, y87, y88, y89, y90, y91, y92, y93, y94, y95, y96, y97, y98, y99, y100, y101, y102, y103, y104, y105, y106, y107, y108, y109, y110, y111, y112, y113, y114, y115, y116, y117, y118, y119, y120, y121, y122, y123, y124, y125, y126, y127, y128, y129, y130, y131, y132, y133, y134, y135, y136, y137, y138, y139, y140, y141, y142, y143, y144, x145, x146, x147, x148, x149, x150, x151, x152, x153, x154, x155, x156, x157, x158, x159, x160, x161, x162, x163, x164, x165, x166, x167, x168, x169, x170, x171, x172, x173, x174, x175, x176, x177, x178, x179, x180, x181, x182, x183, x184, x185, x186, x187, x188, x189, x190, x191, x192, x193, x194], []⟩ w') :
    Code.wp Try.prog pblk (Exit.then K fun _ _ _ => False) ⟨#[.int .i64 p, x1, x2, x3, x4, .pointer (some ⟨g, 0, none⟩), x6, .pointer (some ⟨b7, 0, none⟩), x8, .pointer (some ⟨b9, 0, none⟩), .int .i64 0, x11, x12, x13, x14, x15, x16, x17, x18, x19, x20, x21, x22, x23, x24, x25, x26, x27, x28, x29, x30, x31, x32, x33, x34, x35, x36, x37, x38, x39, x40, x41, x42, x43, x44, x45, x46, x47, x48, x49, x50, x51, .int .u64 2, x53, x54, x55, x56, x57, x58, x59, x60, x61, x62, x63, x64, x65, x66, x67, x68, x69, x70, x71, x72, x73, x74, x75, x76, x77, x78, x79, x80, x81, x82, x83, x84, x85, x86, x87, x88, x89, x90, x91, x92, x93, x94, x95, x96, x97, x98, x99, x100, x101, x102, x103, x104, x105, x106, x107, x108, x109, x110, x111, x112, x113, x114, x115, x116, x117, x118, x119, x120, x121, x122, x123, x124, x125, x126, x127, x128, x129, x130, x131, x132, x133, x134, x135, x136, x137, x138, x139, x140, x141, x142, x143, x144, x145, x146, x147, x148, x149, x150, x151, x152, x153, x154, x155, x156, x157, x158, x159, x160, x161, x162, x163, x164, x165, x166, x167, x168, x169, x170, x171, x172, x173, x174, x175, x176, x177, x178, x179, x180, x181, x182, x183, x184, x185, x186, x187, x188, x189, x190, x191, x192, x193, x194], []⟩ W := by
  have HK := Lib.hid hK
  clear hK
  have HS := Lib.hid h
  obtain ⟨ac, hac⟩ : ∃ a, a = ac := ⟨_, rfl⟩
  subst hac
  obtain ⟨kd, wv, pk, xf⟩ := ac
  obtain ⟨ra, rb, hcs⟩ := rnv_agg h.ps.rr
  injection hcs with hcs
  subst hcs
  have a1 : W.cell? ⟨b9, 1, none⟩ = some (.int .i64 wv) := h.B9.cell 1
  have a2 : W.cell? ⟨b9, 2, none⟩ = some (.int .u64 pk) := h.B9.cell 2
  have a3 : W.cell? ⟨b9, 3, none⟩ = some (.slice xf.A xf.n xf.c) := h.B9.cell 3
  have HT := Lib.hid (n_take h.ps.nr wv pk h.k0 h.k1)
  clear h
  conv => arg 2; whnf
  go_wp2_with fail
  refine HT.out.mono ?_
  rintro e w1 ⟨⟨A1, n1, d1, rfl, hR1, hy1⟩, hS1⟩
  obtain ⟨X1, m1, m2, hP1, -⟩ := HS.out.ps.prog (Nat.le_refl _) hS1
  have HP1 := Lib.hid hP1
  have HR1 := Lib.hid hR1
  have HY1 := Lib.hid hy1
  have HB9 : Hid (Blk w1 b9 35 #[.int .i64 kd, .int .i64 wv, .int .u64 pk, .slice xf.A xf.n xf.c]) := Lib.hid (HS.out.B9.fr (S := No g l1 l2) (by obtain ⟨_, _, _, _, hF, _⟩ := hS1; exact hF) HS.out.h9.2.1)
  have HZ1 : Hid (New w w1) := Lib.hid hP1.new
  clear hS1 hP1 hR1 hy1 a1 a2 a3
  have a1 : w1.cell? ⟨b9, 1, none⟩ = some (.int .i64 wv) := HB9.out.cell 1
  have a2 : w1.cell? ⟨b9, 2, none⟩ = some (.int .u64 pk) := HB9.out.cell 2
  have HD := Lib.hid (r_take HP1.out.rr wv pk HS.out.k0 HS.out.k1 (by have := HS.out.hN; omega))
  obtain ⟨r, hr⟩ : ∃ r, r = mTake s wv pk := ⟨_, rfl⟩
  rw [← hr] at HD HP1 HR1 HY1 ⊢
  have HNN := Lib.hid (mTake_nn s wv pk)
  rw [← hr] at HNN
  clear hr HT
  obtain ⟨s', xs, bad⟩ := r
  dsimp only
  go_wp2_with (first | ((with_reducible refine atOp ⟨some 95, .load _ _, _, _, _, _⟩ ?_); refine wpList_load_any rfl _ rfl Try.underlying54 rfl rfl rfl HP1.out.B7 ?_))
  refine HD.out.mono ?_
  rintro e w2 ⟨⟨v', A2, n2, d2, rfl, hR2, hy2, hRR⟩, hN2⟩
  obtain ⟨fa, fb, rfl⟩ := rnv_agg hRR
  have HRR := Lib.hid hRR
  have HR2 := Lib.hid hR2
  have HY2 := Lib.hid hy2
  have HN2 := Lib.hid hN2
  have HB92 : Hid (Blk w2 b9 35 #[.int .i64 kd, .int .i64 wv, .int .u64 pk, .slice xf.A xf.n xf.c]) := Lib.hid (hN2.blk HB9.out)
  have HB7 : Hid (Blk w2 b7 54 #[.int .i64 p, .slice ra.A ra.n ra.c, .slice ra.B ra.m ra.d, .slice rb.A rb.n rb.c, .slice rb.B rb.m rb.d]) := Lib.hid (hN2.blk HP1.out.B7)
  clear hRR hR2 hy2 hN2 a1 a2 HD
  go_upto_region 25 with fail
  obtain ⟨w3, hw3⟩ : ∃ w3 : World, w3 = w2.alloc (.cells #[.int .i64 p, .slice fa.A fa.n fa.c, .slice fa.B fa.m fa.d, .slice fb.A fb.n fb.c, .slice fb.B fb.m fb.d] 54) := ⟨_, rfl⟩
  obtain ⟨b13, hb13⟩ : ∃ b13, b13 = w2.heap.size := ⟨_, rfl⟩
  have HN3 : Hid (New w2 w3) := Lib.hid (by rw [hw3]; exact New.al (New.refl _) _)
  have HB13 : Hid (Blk w3 b13 54 #[.int .i64 p, .slice fa.A fa.n fa.c, .slice fa.B fa.m fa.d, .slice fb.A fb.n fb.c, .slice fb.B fb.m fb.d]) := Lib.hid (by rw [hw3, hb13]; exact Blk.new _ _ _)
  have HB73 : Hid (Blk w3 b7 54 #[.int .i64 p, .slice ra.A ra.n ra.c, .slice ra.B ra.m ra.d, .slice rb.A rb.n rb.c, .slice rb.B rb.m rb.d]) := Lib.hid (HN3.out.blk HB7.out)
  rw [← hw3, ← hb13]
  clear hw3 hb13
  go_wp2_with (first | ((with_reducible refine atOp ⟨some 104, .load _ _, _, _, _, _⟩ ?_); refine wpList_load_any rfl _ rfl Try.underlying54 rfl rfl rfl HB13.out ?_) | ((with_reducible refine atOp ⟨none, .store 54 (.tmp 7) _, _, _, _, _⟩ ?_); refine wpList_store_any rfl (.tmp 7) (.tmp 104) rfl rfl rfl rfl HB73.out rfl (by simp [Value.oneCell']) ?_; intro w8 hb8 hf8; have HB8 := Lib.hid hb8; have HF8 := Lib.hid hf8; clear hb8 hf8))
  refine (bytes_any A1 A2 n1 n2 d1 d2 xs xs w8 ((((HN2.out.tr HN3.out).rd HR1.out).fr HF8.out ?_)) ((HN3.out.rd HR2.out).fr HF8.out ?_) HY1.out HY1.out).mono ?_
  · intro k hk e
    subst e
    exact IsT.not_blk HP1.out.B7 (by decide) hk
  · rintro k (hk | hk) e
    · exact (HP1.out.sep k hk).2.2 e
    · have := HP1.out.B7.lt
      omega
  rintro e w9 ⟨rfl, rfl⟩
  simp only [decide_true]
  go_wp2_with fail
  refine HK.out _ _ _ _ _ _ _ _ _ _ _ _ _ _ _ _ _ _ _ _ _ _ _ _ _ _ _ _ _ _ _ _ _ _ _ _ _ _ _ _ _ _ _ _ _ _ _ _ _ _ _ _ _ _ _ _ _ _ _ _ _ _ _ _ _ _ _ _ _ _ _ _ _ _ _ _ _ _ _ _ _ _ _ _ _ _ _ _ _ _ _ _ _ _ _ _ _ _ _ _ _ _ ?_
  have hF8 := HF8.out
  refine ⟨HNN.out, ?_, X1, m1, m2, _, s', _, (HP1.out.doc (M := N + 2) (by omega) ?_ (HN2.out.tr HN3.out) HB8.out hF8)⟩
  · exact (HN3.out.blk HB92.out).fr hF8 HS.out.h9.2.2
  · exact ((HRR.out.new HN3.out).more (by omega))
set_option maxHeartbeats 16000000 in
set_option maxRecDepth 100000 in
theorem ps_lose {x1 x2 x3 x4 x6 x8 x11 x12 x13 x14 x15 x16 x17 x18 x19 x20 x21 x22 x23 x24 x25 x26 x27 x28 x29 x30 x31 x32 x33 x34 x35 x36 x37 x38 x39 x40 x41 x42 x43 x44 x45 x46 x47 x48 x49 x50 x51 x53 x54 x55 x56 x57 x58 x59 x60 x61 x62 x63 x64 x65 x66 x67 x68 x69 x70 x71 x72 x73 x74 x75 x76 x77 x78 x79 x80 x81 x82 x83 x84 x85 x86 x87 x88 x89 x90 x91 x92 x93 x94 x95 x96 x97 x98 x99 x100 x101 x102 x103 x104 x105 x106 x107 x108 x109 x110 x111 x112 x113 x114 x115 x116 x117 x118 x119 x120 x121 x122 x123 x124 x125 x126 x127 x128 x129 x130 x131 x132 x133 x134 x135 x136 x137 x138 x139 x140 x141 x142 x143 x144 x145 x146 x147 x148 x149 x150 x151 x152 x153 x154 x155 x156 x157 x158 x159 x160 x161 x162 x163 x164 x165 x166 x167 x168 x169 x170 x171 x172 x173 x174 x175 x176 x177 x178 x179 x180 x181 x182 x183 x184 x185 x186 x187 x188 x189 x190 x191 x192 x193 x194 : Value} {K : Act → World → Prop} {w W : World} {base g b7 b9 : Nat} {p : Int} {N : Nat} {X : Nat → Prop} {l1 l2 : Ln} {P : Nat → Prop} {s : Ms} {cs : Array Value} {ac : Ac}
    (h : PwIn w base g b7 b9 p N W X l1 l2 P s cs ac)
    (hK : ∀ (bad : Int) (y4 y11 y12 y13 y14 y15 y16 y17 y53 y54 y55 y56 y57 y58 y59 y60 y61 y62 y63 y64 y65 y66 y67 y68 y69 y70 y71 y72 y73 y74 y75 y76 y77 y78 y79 y80 y81 y82 y83 y84 y85 y86 y87 y88 y89 y90 y91 y92 y93 y94 y95 y96 y97 y98 y99 y100 y101 y102 y103 y104 y105 y106 y107 y108 y109 y110 y111 y112 y113 y114 y115 y116 y117 y118 y119 y120 y121 y122 y123 y124 y125 y126 y127 y128 y129 y130 y131 y132 y133 y134 y135 y136 y137 y138 y139 y140 y141 y142 y143 y144 : Value) (w' : World), PX w base g b7 b9 p N ac bad w' → K ⟨#[.int .i64 p, x1, x2, x3, y4, .pointer (some ⟨g, 0, none⟩), errV bad, .pointer (some ⟨b7, 0, none⟩), x8, .pointer (some ⟨b9, 0, none⟩), .int .i64 bad, y11, y12, y13, y14, y15, y16, y17, x18, x19, x20, x21, x22, x23, x24, x25, x26, x27, x28, x29, x30, x31, x32, x33, x34, x35, x36, x37, x38, x39, x40, x41, x42, x43, x44, x45, x46, x47, x48, x49, x50, x51, .int .u64 3, y53, y54, y55, y56, y57, y58, y59, y60, y61, y62, y63, y64, y65, y66, y67, y68, y69, y70, y71, y72, y73, y74, y75, y76, y77, y78, y79, y80, y81, y82, y83, y84, y85, y86, y87, y88, y89, y90, y91, y92, y93, y94, y95, y96, y97, y98, y99, y100, y101, y102, y103, y104, y105, y106, y107, y108, y109, y110, y111, y112, y113, y114, y115, y116, y117, y118, y119, y120, y121, y122, y123, y124, y125, y126, y127, y128, y129, y130, y131, y132, y133, y134, y135, y136, y137, y138, y139, y140, y141, y142, y143, y144, x145, x146, x147, x148, x149, x150, x151, x152, x153, x154, x155, x156, x157, x158, x159, x160, x161, x162, x163, x164, x165, x166, x167, x168, x169, x170, x171, x172, x173, x174, x175, x176, x177, x178, x179, x180, x181, x182, x183, x184, x185, x186, x187, x188, x189, x190, x191, x192, x193, x194], []⟩ w') :
    Code.wp Try.prog pblk (Exit.then K fun _ _ _ => False) ⟨#[.int .i64 p, x1, x2, x3, x4, .pointer (some ⟨g, 0, none⟩), x6, .pointer (some ⟨b7, 0, none⟩), x8, .pointer (some ⟨b9, 0, none⟩), .int .i64 0, x11, x12, x13, x14, x15, x16, x17, x18, x19, x20, x21, x22, x23, x24, x25, x26, x27, x28, x29, x30, x31, x32, x33, x34, x35, x36, x37, x38, x39, x40, x41, x42, x43, x44, x45, x46, x47, x48, x49, x50, x51, .int .u64 3, x53, x54, x55, x56, x57, x58, x59, x60, x61, x62, x63, x64, x65, x66, x67, x68, x69, x70, x71, x72, x73, x74, x75, x76, x77, x78, x79, x80, x81, x82, x83, x84, x85, x86, x87, x88, x89, x90, x91, x92, x93, x94, x95, x96, x97, x98, x99, x100, x101, x102, x103, x104, x105, x106, x107, x108, x109, x110, x111, x112, x113, x114, x115, x116, x117, x118, x119, x120, x121, x122, x123, x124, x125, x126, x127, x128, x129, x130, x131, x132, x133, x134, x135, x136, x137, x138, x139, x140, x141, x142, x143, x144, x145, x146, x147, x148, x149, x150, x151, x152, x153, x154, x155, x156, x157, x158, x159, x160, x161, x162, x163, x164, x165, x166, x167, x168, x169, x170, x171, x172, x173, x174, x175, x176, x177, x178, x179, x180, x181, x182, x183, x184, x185, x186, x187, x188, x189, x190, x191, x192, x193, x194], []⟩ W := by
  have HK := Lib.hid hK
  clear hK
  have HS := Lib.hid h
  obtain ⟨ac, hac⟩ : ∃ a, a = ac := ⟨_, rfl⟩
  subst hac
  obtain ⟨kd, wv, pk, xf⟩ := ac
  obtain ⟨ra, rb, hcs⟩ := rnv_agg h.ps.rr
  injection hcs with hcs
  subst hcs
  have a1 : W.cell? ⟨b9, 1, none⟩ = some (.int .i64 wv) := h.B9.cell 1
  have a2 : W.cell? ⟨b9, 2, none⟩ = some (.int .u64 pk) := h.B9.cell 2
  have a3 : W.cell? ⟨b9, 3, none⟩ = some (.slice xf.A xf.n xf.c) := h.B9.cell 3

  clear h
  conv => arg 2; whnf
  have HD := Lib.hid (r_lose HS.out.ps.rr wv pk HS.out.p0 HS.out.p1 HS.out.k0 HS.out.k1 (by have := HS.out.hN; omega))
  obtain ⟨r, hr⟩ : ∃ r, r = mLose p s wv pk := ⟨_, rfl⟩
  have HNN := Lib.hid (mLose_nn p s wv pk)
  rw [← hr] at HD HNN
  have HM := Lib.hid hr
  clear hr
  obtain ⟨s', bad⟩ := r
  go_wp2_with (first | ((with_reducible refine atOp ⟨some 114, .load _ _, _, _, _, _⟩ ?_); refine wpList_load_any rfl _ rfl Try.underlying54 rfl rfl rfl HS.out.ps.B7 ?_))
  refine HD.out.mono ?_
  rintro e w2 ⟨⟨v', rfl, hRR⟩, hN2⟩
  obtain ⟨fa, fb, rfl⟩ := rnv_agg hRR
  have HRR := Lib.hid hRR
  have HN2 := Lib.hid hN2
  have HB92 : Hid (Blk w2 b9 35 #[.int .i64 kd, .int .i64 wv, .int .u64 pk, .slice xf.A xf.n xf.c]) := Lib.hid (hN2.blk HS.out.B9)
  have HB7 : Hid (Blk w2 b7 54 #[.int .i64 p, .slice ra.A ra.n ra.c, .slice ra.B ra.m ra.d, .slice rb.A rb.n rb.c, .slice rb.B rb.m rb.d]) := Lib.hid (hN2.blk HS.out.ps.B7)
  clear hRR hN2 a1 a2 a3 HD
  dsimp only
  go_upto_region 30 with (first | ((with_reducible refine atOp ⟨none, .store 54 (.tmp 7) _, _, _, _, _⟩ ?_); refine wpList_store_any rfl (.tmp 7) (.tmp 120) rfl rfl rfl rfl HB7.out rfl (by simp [Value.oneCell']) ?_; intro w8 hb8 hf8; have HB8 := Lib.hid hb8; have HF8 := Lib.hid hf8; clear hb8 hf8))
  have HB9 : Hid (Blk w8 b9 35 #[.int .i64 kd, .int .i64 wv, .int .u64 pk, .slice xf.A xf.n xf.c]) := Lib.hid (HB92.out.fr HF8.out HS.out.h9.2.2)
  have HP1 := Lib.hid (HS.out.ps.doc (M := N + 1) (by omega) HRR.out HN2.out HB8.out HF8.out)
  have a1 : w8.cell? ⟨b9, 1, none⟩ = some (.int .i64 wv) := HB9.out.cell 1
  have a2 : w8.cell? ⟨b9, 2, none⟩ = some (.int .u64 pk) := HB9.out.cell 2
  have HT := Lib.hid (n_lose HP1.out.nr wv pk HS.out.k0 HS.out.k1 (by have := HS.out.hN; omega))
  rw [← HM.out] at HT
  go_wp2_with fail
  refine HT.out.mono ?_
  rintro e w9 ⟨rfl, hS9⟩
  have HS9 := Lib.hid hS9
  clear hS9 a1 a2
  go_wp2_with fail
  refine HK.out _ _ _ _ _ _ _ _ _ _ _ _ _ _ _ _ _ _ _ _ _ _ _ _ _ _ _ _ _ _ _ _ _ _ _ _ _ _ _ _ _ _ _ _ _ _ _ _ _ _ _ _ _ _ _ _ _ _ _ _ _ _ _ _ _ _ _ _ _ _ _ _ _ _ _ _ _ _ _ _ _ _ _ _ _ _ _ _ _ _ _ _ _ _ _ _ _ _ _ _ _ _ ?_
  obtain ⟨X1, m1, m2, hP2, -⟩ := HP1.out.prog (M := N + 2) (by omega) HS9.out
  refine ⟨HNN.out, HB9.out.fr (S := No g l1 l2) (by obtain ⟨_, _, _, _, hF, _⟩ := HS9.out; exact hF) HS.out.h9.2.1, X1, m1, m2, _, s', _, hP2⟩
set_option maxHeartbeats 16000000 in
set_option maxRecDepth 100000 in
theorem ps_twice {x1 x2 x3 x4 x6 x8 x11 x12 x13 x14 x15 x16 x17 x18 x19 x20 x21 x22 x23 x24 x25 x26 x27 x28 x29 x30 x31 x32 x33 x34 x35 x36 x37 x38 x39 x40 x41 x42 x43 x44 x45 x46 x47 x48 x49 x50 x51 x53 x54 x55 x56 x57 x58 x59 x60 x61 x62 x63 x64 x65 x66 x67 x68 x69 x70 x71 x72 x73 x74 x75 x76 x77 x78 x79 x80 x81 x82 x83 x84 x85 x86 x87 x88 x89 x90 x91 x92 x93 x94 x95 x96 x97 x98 x99 x100 x101 x102 x103 x104 x105 x106 x107 x108 x109 x110 x111 x112 x113 x114 x115 x116 x117 x118 x119 x120 x121 x122 x123 x124 x125 x126 x127 x128 x129 x130 x131 x132 x133 x134 x135 x136 x137 x138 x139 x140 x141 x142 x143 x144 x145 x146 x147 x148 x149 x150 x151 x152 x153 x154 x155 x156 x157 x158 x159 x160 x161 x162 x163 x164 x165 x166 x167 x168 x169 x170 x171 x172 x173 x174 x175 x176 x177 x178 x179 x180 x181 x182 x183 x184 x185 x186 x187 x188 x189 x190 x191 x192 x193 x194 : Value} {K : Act → World → Prop} {w W : World} {base g b7 b9 : Nat} {p : Int} {N : Nat} {X : Nat → Prop} {l1 l2 : Ln} {P : Nat → Prop} {s : Ms} {cs : Array Value} {ac : Ac}
    (h : PwIn w base g b7 b9 p N W X l1 l2 P s cs ac)
    (hK : ∀ (bad : Int) (y4 y11 y12 y13 y14 y15 y16 y17 y53 y54 y55 y56 y57 y58 y59 y60 y61 y62 y63 y64 y65 y66 y67 y68 y69 y70 y71 y72 y73 y74 y75 y76 y77 y78 y79 y80 y81 y82 y83 y84 y85 y86 y87 y88 y89 y90 y91 y92 y93 y94 y95 y96 y97 y98 y99 y100 y101 y102 y103 y104 y105 y106 y107 y108 y109 y110 y111 y112 y113 y114 y115 y116 y117 y118 y119 y120 y121 y122 y123 y124 y125 y126 y127 y128 y129 y130 y131 y132 y133 y134 y135 y136 y137 y138 y139 y140 y141 y142 y143 y144 : Value) (w' : World), PX w base g b7 b9 p N ac bad w' → K ⟨#[.int .i64 p, x1, x2, x3, y4, .pointer (some ⟨g, 0, none⟩), errV bad, .pointer (some ⟨b7, 0, none⟩), x8, .pointer (some ⟨b9, 0, none⟩), .int .i64 bad, y11, y12, y13, y14, y15, y16, y17, x18, x19, x20, x21, x22, x23, x24, x25, x26, x27, x28, x29, x30, x31, x32, x33, x34, x35, x36, x37, x38, x39, x40, x41, x42, x43, x44, x45, x46, x47, x48, x49, x50, x51, .int .u64 4, y53, y54, y55, y56, y57, y58, y59, y60, y61, y62, y63, y64, y65, y66, y67, y68, y69, y70, y71, y72, y73, y74, y75, y76, y77, y78, y79, y80, y81, y82, y83, y84, y85, y86, y87, y88, y89, y90, y91, y92, y93, y94, y95, y96, y97, y98, y99, y100, y101, y102, y103, y104, y105, y106, y107, y108, y109, y110, y111, y112, y113, y114, y115, y116, y117, y118, y119, y120, y121, y122, y123, y124, y125, y126, y127, y128, y129, y130, y131, y132, y133, y134, y135, y136, y137, y138, y139, y140, y141, y142, y143, y144, x145, x146, x147, x148, x149, x150, x151, x152, x153, x154, x155, x156, x157, x158, x159, x160, x161, x162, x163, x164, x165, x166, x167, x168, x169, x170, x171, x172, x173, x174, x175, x176, x177, x178, x179, x180, x181, x182, x183, x184, x185, x186, x187, x188, x189, x190, x191, x192, x193, x194], []⟩ w') :
    Code.wp Try.prog pblk (Exit.then K fun _ _ _ => False) ⟨#[.int .i64 p, x1, x2, x3, x4, .pointer (some ⟨g, 0, none⟩), x6, .pointer (some ⟨b7, 0, none⟩), x8, .pointer (some ⟨b9, 0, none⟩), .int .i64 0, x11, x12, x13, x14, x15, x16, x17, x18, x19, x20, x21, x22, x23, x24, x25, x26, x27, x28, x29, x30, x31, x32, x33, x34, x35, x36, x37, x38, x39, x40, x41, x42, x43, x44, x45, x46, x47, x48, x49, x50, x51, .int .u64 4, x53, x54, x55, x56, x57, x58, x59, x60, x61, x62, x63, x64, x65, x66, x67, x68, x69, x70, x71, x72, x73, x74, x75, x76, x77, x78, x79, x80, x81, x82, x83, x84, x85, x86, x87, x88, x89, x90, x91, x92, x93, x94, x95, x96, x97, x98, x99, x100, x101, x102, x103, x104, x105, x106, x107, x108, x109, x110, x111, x112, x113, x114, x115, x116, x117, x118, x119, x120, x121, x122, x123, x124, x125, x126, x127, x128, x129, x130, x131, x132, x133, x134, x135, x136, x137, x138, x139, x140, x141, x142, x143, x144, x145, x146, x147, x148, x149, x150, x151, x152, x153, x154, x155, x156, x157, x158, x159, x160, x161, x162, x163, x164, x165, x166, x167, x168, x169, x170, x171, x172, x173, x174, x175, x176, x177, x178, x179, x180, x181, x182, x183, x184, x185, x186, x187, x188, x189, x190, x191, x192, x193, x194], []⟩ W := by
  have HK := Lib.hid hK
  clear hK
  have HS := Lib.hid h
  obtain ⟨ac, hac⟩ : ∃ a, a = ac := ⟨_, rfl⟩
  subst hac
  obtain ⟨kd, wv, pk, xf⟩ := ac
  obtain ⟨ra, rb, hcs⟩ := rnv_agg h.ps.rr
  injection hcs with hcs
  subst hcs
  have a1 : W.cell? ⟨b9, 1, none⟩ = some (.int .i64 wv) := h.B9.cell 1
  have a2 : W.cell? ⟨b9, 2, none⟩ = some (.int .u64 pk) := h.B9.cell 2
  have a3 : W.cell? ⟨b9, 3, none⟩ = some (.slice xf.A xf.n xf.c) := h.B9.cell 3

  clear h
  conv => arg 2; whnf
  have HD := Lib.hid (r_twice HS.out.ps.rr wv pk HS.out.k0 HS.out.k1 (by have := HS.out.hN; omega))
  obtain ⟨r, hr⟩ : ∃ r, r = mTwice s wv pk := ⟨_, rfl⟩
  have HNN := Lib.hid (mTwice_nn s wv pk)
  rw [← hr] at HD HNN
  have HM := Lib.hid hr
  clear hr
  obtain ⟨s', bad⟩ := r
  go_wp2_with (first | ((with_reducible refine atOp ⟨some 131, .load _ _, _, _, _, _⟩ ?_); refine wpList_load_any rfl _ rfl Try.underlying54 rfl rfl rfl HS.out.ps.B7 ?_))
  refine HD.out.mono ?_
  rintro e w2 ⟨⟨v', rfl, hRR⟩, hN2⟩
  obtain ⟨fa, fb, rfl⟩ := rnv_agg hRR
  have HRR := Lib.hid hRR
  have HN2 := Lib.hid hN2
  have HB92 : Hid (Blk w2 b9 35 #[.int .i64 kd, .int .i64 wv, .int .u64 pk, .slice xf.A xf.n xf.c]) := Lib.hid (hN2.blk HS.out.B9)
  have HB7 : Hid (Blk w2 b7 54 #[.int .i64 p, .slice ra.A ra.n ra.c, .slice ra.B ra.m ra.d, .slice rb.A rb.n rb.c, .slice rb.B rb.m rb.d]) := Lib.hid (hN2.blk HS.out.ps.B7)
  clear hRR hN2 a1 a2 a3 HD
  dsimp only
  go_upto_region 33 with (first | ((with_reducible refine atOp ⟨none, .store 54 (.tmp 7) _, _, _, _, _⟩ ?_); refine wpList_store_any rfl (.tmp 7) (.tmp 137) rfl rfl rfl rfl HB7.out rfl (by simp [Value.oneCell']) ?_; intro w8 hb8 hf8; have HB8 := Lib.hid hb8; have HF8 := Lib.hid hf8; clear hb8 hf8))
  have HB9 : Hid (Blk w8 b9 35 #[.int .i64 kd, .int .i64 wv, .int .u64 pk, .slice xf.A xf.n xf.c]) := Lib.hid (HB92.out.fr HF8.out HS.out.h9.2.2)
  have HP1 := Lib.hid (HS.out.ps.doc (M := N) (by omega) HRR.out HN2.out HB8.out HF8.out)
  have a1 : w8.cell? ⟨b9, 1, none⟩ = some (.int .i64 wv) := HB9.out.cell 1
  have a2 : w8.cell? ⟨b9, 2, none⟩ = some (.int .u64 pk) := HB9.out.cell 2
  have HT := Lib.hid (n_twice HP1.out.nr wv pk HS.out.k0 HS.out.k1)
  rw [← HM.out] at HT
  go_wp2_with fail
  refine HT.out.mono ?_
  rintro e w9 ⟨rfl, hS9⟩
  have HS9 := Lib.hid hS9
  clear hS9 a1 a2
  go_wp2_with fail
  refine HK.out _ _ _ _ _ _ _ _ _ _ _ _ _ _ _ _ _ _ _ _ _ _ _ _ _ _ _ _ _ _ _ _ _ _ _ _ _ _ _ _ _ _ _ _ _ _ _ _ _ _ _ _ _ _ _ _ _ _ _ _ _ _ _ _ _ _ _ _ _ _ _ _ _ _ _ _ _ _ _ _ _ _ _ _ _ _ _ _ _ _ _ _ _ _ _ _ _ _ _ _ _ _ ?_
  obtain ⟨X1, m1, m2, hP2, -⟩ := HP1.out.prog (M := N + 2) (by omega) (HS9.out.more (by omega))
  refine ⟨HNN.out, HB9.out.fr (S := No g l1 l2) (by obtain ⟨_, _, _, _, hF, _⟩ := HS9.out; exact hF) HS.out.h9.2.1, X1, m1, m2, _, s', _, hP2⟩
set_option maxHeartbeats 16000000 in
set_option maxRecDepth 100000 in
theorem ps_send {x1 x2 x3 x4 x6 x8 x11 x12 x13 x14 x15 x16 x17 x18 x19 x20 x21 x22 x23 x24 x25 x26 x27 x28 x29 x30 x31 x32 x33 x34 x35 x36 x37 x38 x39 x40 x41 x42 x43 x44 x45 x46 x47 x48 x49 x50 x51 x53 x54 x55 x56 x57 x58 x59 x60 x61 x62 x63 x64 x65 x66 x67 x68 x69 x70 x71 x72 x73 x74 x75 x76 x77 x78 x79 x80 x81 x82 x83 x84 x85 x86 x87 x88 x89 x90 x91 x92 x93 x94 x95 x96 x97 x98 x99 x100 x101 x102 x103 x104 x105 x106 x107 x108 x109 x110 x111 x112 x113 x114 x115 x116 x117 x118 x119 x120 x121 x122 x123 x124 x125 x126 x127 x128 x129 x130 x131 x132 x133 x134 x135 x136 x137 x138 x139 x140 x141 x142 x143 x144 x145 x146 x147 x148 x149 x150 x151 x152 x153 x154 x155 x156 x157 x158 x159 x160 x161 x162 x163 x164 x165 x166 x167 x168 x169 x170 x171 x172 x173 x174 x175 x176 x177 x178 x179 x180 x181 x182 x183 x184 x185 x186 x187 x188 x189 x190 x191 x192 x193 x194 : Value} {K : Act → World → Prop} {w W : World} {base g b7 b9 : Nat} {p : Int} {N : Nat} {X : Nat → Prop} {l1 l2 : Ln} {P : Nat → Prop} {s : Ms} {cs : Array Value} {ac : Ac}
    (h : PwIn w base g b7 b9 p N W X l1 l2 P s cs ac) (q : Int) (h2 : (q == 2) = false) (h3 : (q == 3) = false) (h4 : (q == 4) = false)
    (hK : ∀ (bad : Int) (y4 y11 y12 y13 y14 y15 y16 y17 y53 y54 y55 y56 y57 y58 y59 y60 y61 y62 y63 y64 y65 y66 y67 y68 y69 y70 y71 y72 y73 y74 y75 y76 y77 y78 y79 y80 y81 y82 y83 y84 y85 y86 y87 y88 y89 y90 y91 y92 y93 y94 y95 y96 y97 y98 y99 y100 y101 y102 y103 y104 y105 y106 y107 y108 y109 y110 y111 y112 y113 y114 y115 y116 y117 y118 y119 y120 y121 y122 y123 y124 y125 y126 y127 y128 y129 y130 y131 y132 y133 y134 y135 y136 y137 y138 y139 y140 y141 y142 y143 y144 : Value) (w' : World), PX w base g b7 b9 p N ac bad w' → K ⟨#[.int .i64 p, x1, x2, x3, y4, .pointer (some ⟨g, 0, none⟩), errV bad, .pointer (some ⟨b7, 0, none⟩), x8, .pointer (some ⟨b9, 0, none⟩), .int .i64 bad, y11, y12, y13, y14, y15, y16, y17, x18, x19, x20, x21, x22, x23, x24, x25, x26, x27, x28, x29, x30, x31, x32, x33, x34, x35, x36, x37, x38, x39, x40, x41, x42, x43, x44, x45, x46, x47, x48, x49, x50, x51, .int .u64 q, y53, y54, y55, y56, y57, y58, y59, y60, y61, y62, y63, y64, y65, y66, y67, y68, y69, y70, y71, y72, y73, y74, y75, y76, y77, y78, y79, y80, y81, y82, y83, y84, y85, y86, y87, y88, y89, y90, y91, y92, y93, y94, y95, y96, y97, y98, y99, y100, y101, y102, y103, y104, y105, y106, y107, y108, y109, y110, y111, y112, y113, y114, y115, y116, y117, y118, y119, y120, y121, y122, y123, y124, y125, y126, y127, y128, y129, y130, y131, y132, y133, y134, y135, y136, y137, y138, y139, y140, y141, y142, y143, y144, x145, x146, x147, x148, x149, x150, x151, x152, x153, x154, x155, x156, x157, x158, x159, x160, x161, x162, x163, x164, x165, x166, x167, x168, x169, x170, x171, x172, x173, x174, x175, x176, x177, x178, x179, x180, x181, x182, x183, x184, x185, x186, x187, x188, x189, x190, x191, x192, x193, x194], []⟩ w') :
    Code.wp Try.prog pblk (Exit.then K fun _ _ _ => False) ⟨#[.int .i64 p, x1, x2, x3, x4, .pointer (some ⟨g, 0, none⟩), x6, .pointer (some ⟨b7, 0, none⟩), x8, .pointer (some ⟨b9, 0, none⟩), .int .i64 0, x11, x12, x13, x14, x15, x16, x17, x18, x19, x20, x21, x22, x23, x24, x25, x26, x27, x28, x29, x30, x31, x32, x33, x34, x35, x36, x37, x38, x39, x40, x41, x42, x43, x44, x45, x46, x47, x48, x49, x50, x51, .int .u64 q, x53, x54, x55, x56, x57, x58, x59, x60, x61, x62, x63, x64, x65, x66, x67, x68, x69, x70, x71, x72, x73, x74, x75, x76, x77, x78, x79, x80, x81, x82, x83, x84, x85, x86, x87, x88, x89, x90, x91, x92, x93, x94, x95, x96, x97, x98, x99, x100, x101, x102, x103, x104, x105, x106, x107, x108, x109, x110, x111, x112, x113, x114, x115, x116, x117, x118, x119, x120, x121, x122, x123, x124, x125, x126, x127, x128, x129, x130, x131, x132, x133, x134, x135, x136, x137, x138, x139, x140, x141, x142, x143, x144, x145, x146, x147, x148, x149, x150, x151, x152, x153, x154, x155, x156, x157, x158, x159, x160, x161, x162, x163, x164, x165, x166, x167, x168, x169, x170, x171, x172, x173, x174, x175, x176, x177, x178, x179, x180, x181, x182, x183, x184, x185, x186, x187, x188, x189, x190, x191, x192, x193, x194], []⟩ W := by
  have HK := Lib.hid hK
  clear hK
  have HS := Lib.hid h
  obtain ⟨ac, hac⟩ : ∃ a, a = ac := ⟨_, rfl⟩
  subst hac
  obtain ⟨kd, wv, pk, xf⟩ := ac
  obtain ⟨ra, rb, hcs⟩ := rnv_agg h.ps.rr
  injection hcs with hcs
  subst hcs
  have a1 : W.cell? ⟨b9, 1, none⟩ = some (.int .i64 wv) := h.B9.cell 1
  have a2 : W.cell? ⟨b9, 2, none⟩ = some (.int .u64 pk) := h.B9.cell 2
  have a3 : W.cell? ⟨b9, 3, none⟩ = some (.slice xf.A xf.n xf.c) := h.B9.cell 3

  clear h
  conv => arg 2; whnf
  have HD := Lib.hid (r_send HS.out.ps.rr wv xf ⟨HS.out.rd.imp (fun k hk => HS.out.ps.old k hk), HS.out.byt, HS.out.nn⟩)
  obtain ⟨r, hr⟩ : ∃ r, r = mSend s wv xf.xs := ⟨_, rfl⟩
  have HNN := Lib.hid (mSend_nn s wv xf.xs)
  rw [← hr] at HD HNN
  have HM := Lib.hid hr
  clear hr
  obtain ⟨s', bad⟩ := r
  obtain ⟨xA, xn, xc, xs⟩ := xf
  dsimp only [Fm.val] at HD a3 HM
  have hn1 : xn ≤ 1000 := HS.out.nn
  go_wp2_with (first | ((with_reducible refine atOp ⟨some 54, .load _ _, _, _, _, _⟩ ?_); refine wpList_load_any rfl _ rfl Try.underlying54 rfl rfl rfl HS.out.ps.B7 ?_))
  refine HD.out.mono ?_
  rintro e w2 ⟨⟨v', rfl, hRR⟩, hN2⟩
  obtain ⟨fa, fb, rfl⟩ := rnv_agg hRR
  have HRR := Lib.hid hRR
  have HN2 := Lib.hid hN2
  have HB92 : Hid (Blk w2 b9 35 #[.int .i64 kd, .int .i64 wv, .int .u64 pk, .slice xA xn xc]) := Lib.hid (hN2.blk HS.out.B9)
  have HB7 : Hid (Blk w2 b7 54 #[.int .i64 p, .slice ra.A ra.n ra.c, .slice ra.B ra.m ra.d, .slice rb.A rb.n rb.c, .slice rb.B rb.m rb.d]) := Lib.hid (hN2.blk HS.out.ps.B7)
  clear hRR hN2 a1 a2 a3 HD
  dsimp only
  go_upto_region 15 with (first | ((with_reducible refine atOp ⟨none, .store 54 (.tmp 7) _, _, _, _, _⟩ ?_); refine wpList_store_any rfl (.tmp 7) (.tmp 60) rfl rfl rfl rfl HB7.out rfl (by simp [Value.oneCell']) ?_; intro w8 hb8 hf8; have HB8 := Lib.hid hb8; have HF8 := Lib.hid hf8; clear hb8 hf8))
  have HB9 : Hid (Blk w8 b9 35 #[.int .i64 kd, .int .i64 wv, .int .u64 pk, .slice xA xn xc]) := Lib.hid (HB92.out.fr HF8.out HS.out.h9.2.2)
  have HP1 := Lib.hid (HS.out.ps.doc (M := N) (by omega) HRR.out HN2.out HB8.out HF8.out)
  have HX8 : Hid (Rd (fun b => b < w.heap.size) w8 1 xA xn (u8s xs)) := Lib.hid ((HN2.out.rd HS.out.rd).fr HF8.out (fun k hk e => by have := HS.out.ps.h7; omega))
  have a1 : w8.cell? ⟨b9, 1, none⟩ = some (.int .i64 wv) := HB9.out.cell 1
  have a3 : w8.cell? ⟨b9, 3, none⟩ = some (.slice xA xn xc) := HB9.out.cell 3
  have HB8l : Hid (b9 < w8.heap.size) := Lib.hid HB9.out.lt
  have a3' := fun o => (New.al (New.refl w8) o).cell_ a3
  have HC8 : Hid (w8.heap.size ≤ w8.heap.size) := Lib.hid (Nat.le_refl _)
  go_upto_region 16 with (at_builtin; refine wpList_app elB _ rfl (.tmp 62) (.tmp 64) rfl w8.heap.size (.slice (some ⟨w8.heap.size, 0, none⟩) 0 0) 0 [] rfl (own_lit (Blk.new w8 5 #[]) (Nat.le_refl _)) xA xn xc (u8s xs) rfl (New.rd (New.al (New.refl w8) _) HX8.out) (u8s_one xs) (by unfold maxLen; omega) (by omega) (by simp) ?_; intro A1 d1 w3 hO3 hF3 hA3; rw [Nat.zero_add]; rw [Nat.zero_add, List.nil_append] at hO3; have HO3 := Lib.hid hO3; have HN3 : Hid (New w8 w3) := Lib.hid ((New.al (New.refl w8) _).fr hF3 (by intro k hk; simp [Value.ownBlock] at hk; omega)); clear hO3 hF3 hA3)
  have HP3 := Lib.hid (HP1.out.keep HN3.out)
  have HB93 : Hid (Blk w3 b9 35 #[.int .i64 kd, .int .i64 wv, .int .u64 pk, .slice xA xn xc]) := Lib.hid (HN3.out.blk HB9.out)
  clear a1 a3 a3'
  have a1 : w3.cell? ⟨b9, 1, none⟩ = some (.int .i64 wv) := HB93.out.cell 1
  have HT := Lib.hid (n_send HP3.out.nr wv A1 xn d1 xs (Rd.own HO3.out rfl) HS.out.byt HS.out.nn)
  rw [← HM.out] at HT
  go_wp2_with fail
  refine HT.out.mono ?_
  rintro e w9 ⟨rfl, hS9⟩
  have hbo : ∀ k, (Value.slice A1 xn d1).ownBlock = some k → w8.heap.size ≤ k ∧ k < w3.heap.size := fun k hk => own_lt HO3.out k hk
  have hno : ∀ k, (Value.slice A1 xn d1).ownBlock = some k → ¬ No g l1 l2 k ∧ ¬ X k := fun k hk => by
    have h1 := (hbo k hk).1
    refine ⟨fun e => ?_, fun e => ?_⟩
    · have := (HP1.out.nr.nt.ours e).2
      omega
    · obtain ⟨cs, fz, hx⟩ := (HP1.out.nr.nt.xs k e).2
      have := lt_of_block hx
      omega
  have hF9 : Fr (No g l1 l2) w3 w9 := by obtain ⟨_, _, _, _, hF, _⟩ := hS9; exact hF
  have HO9 : Hid (w9.ownsRow w8.heap.size 5 1 (.slice A1 xn d1) xn (u8s xs)) := Lib.hid (own_fr HO3.out hF9 (fun k hk => (hno k hk).1))
  have HB99 : Hid (Blk w9 b9 35 #[.int .i64 kd, .int .i64 wv, .int .u64 pk, .slice xA xn xc]) := Lib.hid (HB93.out.fr hF9 HS.out.h9.2.1)
  obtain ⟨Y1, q1, q2, hP9, hn9, hX9⟩ := HP3.out.prog (M := N + 2) (by omega) (NStep.more hS9 (by omega))
  have HP9 := Lib.hid hP9
  have HAW : Hid (∀ k, (Value.slice A1 xn d1).ownBlock = some k → ¬ No g q1 q2 k ∧ ¬ Y1 k ∧ ¬ (P k ∨ (W.heap.size ≤ k ∧ k < w2.heap.size)) ∧ k ≠ b7 ∧ w.heap.size ≤ k ∧ k ≠ b9) := Lib.hid fun k hk => by
    obtain ⟨h1, h2⟩ := hbo k hk
    obtain ⟨h3, h4⟩ := hno k hk
    have e8 := HF8.out.size
    have e7 := HP1.out.B7.lt
    have e9 := HB9.out.lt
    have ew := HP1.out.new.size
    refine ⟨fun e => ?_, fun e => ?_, fun e => ?_, by omega, by omega, by omega⟩
    · rcases hn9 k e with h5 | h5
      · exact h3 h5
      · omega
    · rcases hX9 k e with h5 | h5
      · exact h4 h5
      · omega
    · have := (HP1.out.sep k e).1
      omega
  clear hF9 hX9 hn9 hP9 hbo hno a1 HT hS9
  go_wp2_with fail
  go_loopw [73] (fun ix wr => ∃ (i : Nat) (ys : List Int), i ≤ xn ∧ ix = .int .i64 i ∧ Hid (wr.ownsRow w8.heap.size 5 1 (.slice A1 xn d1) xn (u8s ys) ∧ Fr (fun k => (Value.slice A1 xn d1).ownBlock = some k) w9 wr)) (fun ix _ => xn - (intOf ix).toNat)
  case atStart => exact ⟨0, xs, Nat.zero_le _, rfl, Lib.hid ⟨HO9.out, Fr.refl _ _⟩⟩
  case round =>
    obtain ⟨i, ys, hi, rfl, HI⟩ := hrel
    by_cases hlt : i < xn
    · as_aux_lemma =>
      obtain ⟨b, c, hv, hnc, -⟩ := own_form HI.out.1 (by omega)
      injection hv with hv _ _
      subst hv
      have hyl : ys.length = xn := by have := HI.out.1.1; rw [u8s_len] at this; omega
      have hc := HI.out.1.cellAt i (by omega)
      have hfz := HI.out.1.frozenAt i
      obtain ⟨y, hy⟩ : ∃ y, ys[i]? = some y := ⟨_, List.getElem?_eq_getElem (by omega)⟩
      have hcell : wr.cell? ⟨b, i, none⟩ = some (.int .u8 y) := by
        rw [hc]
        unfold u8s
        rw [List.getElem?_map, hy]
        rfl
      clear hc hy hyl
      go_wp2_with fail
      go_roundw
      case rel =>
        have h := (HI.out.1.stored i (.int .u8 (bits BinOp.xor .u8 y 9))).1
        refine ⟨i + 1, ys.set i (bits BinOp.xor .u8 y 9), by omega, by go_num, Lib.hid ⟨?_, HI.out.2.setCell (p := ⟨b, i, none⟩) (fun _ => rfl) _⟩⟩
        have e : u8s (ys.set i (bits BinOp.xor .u8 y 9)) = (u8s ys).set i (.int .u8 (bits BinOp.xor .u8 y 9)) := by unfold u8s; rw [List.map_set]
        rw [e]
        exact h
      case measure => simp [intOf]; omega
    · as_aux_lemma =>
      obtain rfl : i = xn := by omega
      go_wp2_with fail
      refine HK.out _ _ _ _ _ _ _ _ _ _ _ _ _ _ _ _ _ _ _ _ _ _ _ _ _ _ _ _ _ _ _ _ _ _ _ _ _ _ _ _ _ _ _ _ _ _ _ _ _ _ _ _ _ _ _ _ _ _ _ _ _ _ _ _ _ _ _ _ _ _ _ _ _ _ _ _ _ _ _ _ _ _ _ _ _ _ _ _ _ _ _ _ _ _ _ _ _ _ _ _ _ _ ?_
      obtain ⟨h1, h2⟩ := HI.out
      exact ⟨HNN.out, HB99.out.fr h2 (fun e => (HAW.out _ e).2.2.2.2.2 rfl), Y1, q1, q2, _, s', _, HP9.out.away h2 (fun k hk => by obtain ⟨e1, e2, e3, e4, e5, -⟩ := HAW.out k hk; exact ⟨e1, e2, e3, e4, e5⟩)⟩
end Go.Proofs.Ytajoahhjgloefaa
