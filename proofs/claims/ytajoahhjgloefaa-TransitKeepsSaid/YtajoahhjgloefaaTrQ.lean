/- TransitKeeps: what its loop holds, and the cases of its switch. (mkkeeps.py writes this text.) No condition. -/
import Derived.Test.YtajoahhjgloefaaTrM
import Derived.StillTailTactics
namespace Go.Proofs.Ytajoahhjgloefaa
open Go.RowKit Go.Maps

/-- A region of readings, then one operation: in the order of the text, in a world with a name. -/
theorem wp_still_tail {P : Program} {id : Nat} {Q : Exit → Act → World → Prop} {a : Act} {w : World} {l : List Oper} (n : Nat) (hm : P.follows .mixedOrders = true) (hB : Region.lexTailB .any l.toArray n = true)
    (h : ∀ w', New w w' → w'.heap = w.heap → wpStill P l.toArray w' (fun a' => wpList P l.toArray Q (l.drop n) a' w') (l.take n) a) : (Code.region id l.toArray true).wp P Q a w :=
  wp_region_still_tail n hm hB (h w.drew (New.refl w).dr rfl)
noncomputable def kblk : Code := (Try.f4.body.bind (findC (isBlk 2))).getD .skip
/-- How many frames have these bytes. -/
def cntF (l : Ln) (xs : List Int) : Int := ((l.L.map Fm.xs).count xs : Nat)
def gcs (a b : Nat) : Array Value := #[.int .i64 0, .int .i64 (-(a : Int)), .int .i64 (-(b : Int))]
/-- Two maps beside the net, one a way, with no fewer of each frame than the net has; and how many came and went. -/
structure KN (W : World) (base g bl gb c0 : Nat) (C : Bool → Nat) (k : Nat) (X : Nat → Prop) (l1 l2 : Ln) (f : Bool → Lit → Option Value) (m : Bool → Nat) (lf : Bool → List Int → Int) : Prop where
  nt : Nt X W base g 3 l1 l2 k
  BL : Blk W bl 31 #[.map (some c0), .map (some (C false)), .map (some (C true))]
  GB : Blk W gb 49 (gcs l1.L.length l2.L.length)
  M : ∀ i, MapAt W Try.prog 9 (C i) (m i) (f i)
  mle : ∀ i, m i ≤ k
  cnt : ∀ i xs, Byt xs → (f i (key xs)).getD (.int .i64 0) = .int .i64 (lf i xs)
  low : ∀ i xs, cntF (sel i l1 l2) xs ≤ lf i xs ∧ lf i xs ≤ k
  apart : ∀ j, No g l1 l2 j ∨ X j → ¬ (j = bl ∨ j = gb ∨ ∃ i, j = C i)
  cc : C false ≠ C true
  lb : base ≤ bl ∧ base ≤ gb ∧ ∀ i, base ≤ C i
def OursK (g gb : Nat) (C : Bool → Nat) (l1 l2 : Ln) (j : Nat) : Prop := No g l1 l2 j ∨ j = gb ∨ ∃ i, j = C i
def KX (W : World) (base g bl gb c0 : Nat) (C : Bool → Nat) (k : Nat) (l1 l2 : Ln) (B : Nat) (Ds : List Nat) (w' : World) : Prop :=
  (∃ (X' : Nat → Prop) (l1' l2' : Ln) (f' : Bool → Lit → Option Value) (m' : Bool → Nat) (lf' : Bool → List Int → Int), KN w' base g bl gb c0 C (k + 1) X' l1' l2' f' m' lf') ∧ Fr (OursK g gb C l1 l2) W w' ∧ Marks B Ds w'
section
variable {W w' : World} {base g bl gb c0 : Nat} {C : Bool → Nat} {k : Nat} {X X' : Nat → Prop} {l1 l2 l' : Ln} {f : Bool → Lit → Option Value} {m : Bool → Nat} {lf : Bool → List Int → Int} {i : Bool} {B : Nat} {Ds : List Nat}
theorem KN.old (h : KN W base g bl gb c0 C k X l1 l2 f m lf) {j : Nat} (hj : No g l1 l2 j ∨ X j ∨ j = bl ∨ j = gb ∨ ∃ i, j = C i) : j < W.heap.size := by
  rcases hj with h1 | h1 | rfl | rfl | ⟨i, rfl⟩
  · exact (h.nt.ours h1).2
  · obtain ⟨cs, fz, hx⟩ := (h.nt.xs j h1).2
    exact lt_of_block hx
  · exact h.BL.lt
  · exact h.GB.lt
  · exact (h.M i).lt
theorem blk_ne_map {t b : Nat} {cs : Array Value} {P : Program} {kt n : Nat} {q : Lit → Option Value} (hb : Blk W b t cs) {c : Nat} (h : MapAt W P kt c n q) : b ≠ c := by
  intro e
  obtain ⟨D, ⟨es, clock, hx, _⟩, _⟩ := h
  unfold Blk at hb
  rw [e, hx] at hb
  cases hb
theorem KN.ne_C (h : KN W base g bl gb c0 C k X l1 l2 f m lf) {i j : Bool} (e : j ≠ i) : C j ≠ C i := by
  have := h.cc
  cases i <;> cases j <;> first | exact absurd rfl e | exact this | exact fun x => this x.symm
theorem KN.bl_gb (h : KN W base g bl gb c0 C k X l1 l2 f m lf) : bl ≠ gb := Blk.ne_ h.BL h.GB (by decide)
theorem KN.no_def (h : KN W base g bl gb c0 C k X l1 l2 f m lf) {D : Nat} (hD : OursK g gb C l1 l2 D) : ¬ W.heap[D]? = some (.deferred (some [])) := by
  rcases hD with (rfl | h1 | h1) | rfl | ⟨i, rfl⟩
  · exact not_def_blk h.nt.blk
  · exact h.nt.one.no_def h1
  · exact h.nt.two.no_def h1
  · exact not_def_blk h.GB
  · exact not_def_map (h.M i)
theorem KN.step (h : KN W base g bl gb c0 C k X l1 l2 f m lf) (i : Bool) {f' : Lit → Option Value} {m' : Nat} {lf' : List Int → Int} (hN : Nt X' w' base g 3 (put1 i l1 l') (put2 i l2 l') (k + 1)) (hF : Fr (fun j => No g l1 l2 j ∨ j = gb ∨ j = C i) W w')
    (hG : Blk w' gb 49 (gcs (put1 i l1 l').L.length (put2 i l2 l').L.length)) (hM : MapAt w' Try.prog 9 (C i) m' f') (hm : m' ≤ k + 1) (hc : ∀ xs, Byt xs → (f' (key xs)).getD (.int .i64 0) = .int .i64 (lf' xs)) (hlf : ∀ xs, cntF l' xs ≤ lf' xs ∧ lf' xs ≤ k + 1)
    (hX : ∀ j, X' j → X j ∨ W.heap.size ≤ j) (hL : ∀ j, Lo l' j → Lo (sel i l1 l2) j ∨ W.heap.size ≤ j) (hD : Marks B Ds w') :
    KX W base g bl gb c0 C k l1 l2 B Ds w' := by
  refine ⟨⟨X', put1 i l1 l', put2 i l2 l', fun j => if j = i then f' else f j, fun j => if j = i then m' else m j, fun j => if j = i then lf' else lf j, hN, ?_, hG, ?_, ?_, ?_, ?_, ?_, h.cc, h.lb⟩, hF.mono fun j _ hj => hj.imp id (fun e => e.imp id fun e => ⟨i, e⟩), hD⟩
  · exact h.BL.fr hF (by
      rintro (e | e | e)
      · exact h.apart _ (.inl e) (.inl rfl)
      · exact h.bl_gb e
      · exact blk_ne_map h.BL (h.M i) e)
  · intro j
    by_cases e : j = i
    · subst e
      simp only [if_true]
      exact hM
    · simp only [if_neg e]
      exact (h.M j).fr hF (by
        rintro (e' | e' | e')
        · exact h.apart _ (.inl e') (.inr (.inr ⟨_, rfl⟩))
        · exact blk_ne_map h.GB (h.M j) e'.symm
        · exact h.ne_C e e')
  · intro j
    have := h.mle j
    by_cases e : j = i
    · simp only [if_pos e]; exact hm
    · simp only [if_neg e]; omega
  · intro j xs hx
    by_cases e : j = i
    · subst e
      simp only [if_true]
      exact hc xs hx
    · simp only [if_neg e]
      exact h.cnt j xs hx
  · intro j xs
    by_cases e : j = i
    · subst e
      simp only [if_true]
      rw [sel_put_same]
      have := hlf xs
      omega
    · simp only [if_neg e]
      rw [sel_put_other e]
      have := h.low j xs
      omega
  · rintro j hj hb
    have hlt : j < W.heap.size := h.old (.inr (.inr hb))
    rcases hj with hj | hj
    · rcases no_put (W := W) hj (hL j) with e | e
      · exact h.apart j (.inl e) hb
      · omega
    · rcases hX j hj with e | e
      · exact h.apart j (.inr e) hb
      · omega
theorem KN.keep {W' : World} {S : Nat → Prop} (h : KN W base g bl gb c0 C k X l1 l2 f m lf) (hF : Fr S W W') (hS : ∀ j, S j → W.heap.size ≤ j) : KN W' base g bl gb c0 C k X l1 l2 f m lf := by
  have hn : ∀ j, (No g l1 l2 j ∨ X j ∨ j = bl ∨ j = gb ∨ ∃ i, j = C i) → ¬ S j := fun j hj hs => by
    have := h.old hj
    have := hS j hs
    omega
  exact ⟨h.nt.fr hF (fun j hs hj => hn j (.inl hj) hs) (fun j hs hj => hn j (.inr (.inl hj)) hs), h.BL.fr hF (hn _ (.inr (.inr (.inl rfl)))), h.GB.fr hF (hn _ (.inr (.inr (.inr (.inl rfl))))), fun i => (h.M i).fr hF (hn _ (.inr (.inr (.inr (.inr ⟨i, rfl⟩))))), h.mle, h.cnt, h.low, h.apart, h.cc, h.lb⟩
theorem KN.up (h : KN W base g bl gb c0 C k X l1 l2 f m lf) : KN W base g bl gb c0 C (k + 1) X l1 l2 f m lf :=
  ⟨h.nt.up (Nat.le_succ _), h.BL, h.GB, h.M, fun i => Nat.le_trans (h.mle i) (Nat.le_succ _), h.cnt, fun i xs => ⟨(h.low i xs).1, by have := (h.low i xs).2; omega⟩, h.apart, h.cc, h.lb⟩
theorem KN.idle (h : KN W base g bl gb c0 C k X l1 l2 f m lf) {S : Nat → Prop} (hF : Fr S W w') (hS : ∀ j, S j → W.heap.size ≤ j) (hD : Marks B Ds w') : KX W base g bl gb c0 C k l1 l2 B Ds w' :=
  ⟨⟨X, l1, l2, f, m, lf, (h.keep hF hS).up⟩, (hF.mono fun j hj hs => absurd (hS j hs) (by omega)), hD⟩
theorem gcs_at (i : Bool) (l1 l2 : Ln) : (gcs l1.L.length l2.L.length)[(wayI i).toNat]? = some (.int .i64 (-((sel i l1 l2).L.length : Int))) := by
  cases i <;> rfl
theorem gcs_set (i : Bool) (l1 l2 l' : Ln) : (gcs l1.L.length l2.L.length).setIfInBounds (wayI i).toNat (.int .i64 (-(l'.L.length : Int))) = gcs (put1 i l1 l').L.length (put2 i l2 l').L.length := by
  cases i <;> rfl
end
/-- What holds at the switch. -/
structure KwIn (W : World) (base g bl gb c0 : Nat) (C : Bool → Nat) (k : Nat) (X : Nat → Prop) (l1 l2 : Ln) (f : Bool → Lit → Option Value) (m : Bool → Nat) (lf : Bool → List Int → Int) (i : Bool) (wv pk kd : Int) (b8 n z B : Nat) (Ds : List Nat) (xf : Fm) : Prop where
  kn : KN W base g bl gb c0 C k X l1 l2 f m lf
  k6 : k ≤ 600
  hw : wv = wayI i
  p0 : 0 ≤ pk
  p1 : pk < 18446744073709551616
  B8 : Blk W b8 35 #[.int .i64 kd, .int .i64 wv, .int .u64 pk, .slice xf.A xf.n xf.c]
  hn : (sel i l1 l2).L.length = n
  zz : ∀ j, (No g l1 l2 j ∨ X j ∨ j = bl ∨ j = gb ∨ ∃ i, j = C i) → j < z
  y8 : z ≤ b8
  q : Rd (fun b => b < base) W 1 xf.A xf.n (u8s xf.xs)
  qb : Byt xf.xs
  qn : xf.n ≤ 200
  mrk : Marks B Ds W
  bw : B ≤ W.heap.size
theorem KwIn.wv {W : World} {base g bl gb c0 : Nat} {C : Bool → Nat} {k : Nat} {X : Nat → Prop} {l1 l2 : Ln} {f : Bool → Lit → Option Value} {m : Bool → Nat} {lf : Bool → List Int → Int} {i : Bool} {wv pk kd : Int} {b8 n z B : Nat} {Ds : List Nat} {xf : Fm}
    (h : KwIn W base g bl gb c0 C k X l1 l2 f m lf i wv pk kd b8 n z B Ds xf) : 0 ≤ wv ∧ wv < 3 := by
  have := h.hw
  unfold wayI at this
  cases i <;> simp at this <;> omega
theorem KwIn.n6 {W : World} {base g bl gb c0 : Nat} {C : Bool → Nat} {k : Nat} {X : Nat → Prop} {l1 l2 : Ln} {f : Bool → Lit → Option Value} {m : Bool → Nat} {lf : Bool → List Int → Int} {i : Bool} {wv pk kd : Int} {b8 n z B : Nat} {Ds : List Nat} {xf : Fm}
    (h : KwIn W base g bl gb c0 C k X l1 l2 f m lf i wv pk kd b8 n z B Ds xf) : n ≤ 256 := by
  have := (h.kn.nt.at i).2.2.len
  rw [h.hn] at this
  exact this
theorem KwIn.far {W : World} {base g bl gb c0 : Nat} {C : Bool → Nat} {k : Nat} {X : Nat → Prop} {l1 l2 : Ln} {f : Bool → Lit → Option Value} {m : Bool → Nat} {lf : Bool → List Int → Int} {i : Bool} {wv pk kd : Int} {b8 n z B : Nat} {Ds : List Nat} {xf : Fm}
    (h : KwIn W base g bl gb c0 C k X l1 l2 f m lf i wv pk kd b8 n z B Ds xf) {j : Nat} (hj : z ≤ j) : ¬ (No g l1 l2 j ∨ j = gb ∨ j = C i) := by
  rintro (e | e | e)
  · have := h.zz j (.inl e); omega
  · have := h.zz j (.inr (.inr (.inr (.inl e)))); omega
  · have := h.zz j (.inr (.inr (.inr (.inr ⟨i, e⟩)))); omega
theorem cnt_erase (L : List Fm) (j : Nat) (y : Fm) (hy : L[j]? = some y) (xs : List Int) : ((L.eraseIdx j).map Fm.xs).count xs + (if xs = y.xs then 1 else 0) = (L.map Fm.xs).count xs := by
  induction L generalizing j with
  | nil => simp at hy
  | cons a L ih =>
    cases j with
    | zero =>
      simp at hy
      subst hy
      simp only [List.eraseIdx_cons_zero, List.map_cons, List.count_cons]
      by_cases e : xs = a.xs
      · simp [e]
      · rw [if_neg e, if_neg (by simpa using fun h => e h.symm)]
    | succ j =>
      simp only [List.eraseIdx_cons_succ, List.map_cons, List.count_cons]
      have := ih j (by simpa using hy)
      omega
theorem cnt_snoc (L L' : List Fm) (ys : List Int) (h : L'.map Fm.xs = L.map Fm.xs ++ [ys]) (xs : List Int) : (L'.map Fm.xs).count xs = (L.map Fm.xs).count xs + (if xs = ys then 1 else 0) := by
  rw [h, List.count_append]
  by_cases e : xs = ys
  · simp [e]
  · rw [if_neg e]
    simp [List.count_cons]
    exact fun h => e h.symm
theorem cnt_pos (L : List Fm) (j : Nat) (y : Fm) (hy : L[j]? = some y) : 1 ≤ (L.map Fm.xs).count y.xs := by
  have := cnt_erase L j y hy y.xs
  rw [if_pos rfl] at this
  omega
theorem some_put {f : Lit → Option Value} {ls : List Int → Int} (h : ∀ xs, Byt xs → (f (key xs)).getD (.int .i64 0) = .int .i64 (ls xs)) (xs : List Int) (hx : Byt xs) (v : Int) :
    ∀ ys, Byt ys → (putF f (key xs) (some (.int .i64 v)) (key ys)).getD (.int .i64 0) = .int .i64 (if ys = xs then v else ls ys) := lost_some h xs hx v

set_option maxHeartbeats 8000000 in
set_option maxRecDepth 100000 in
theorem ks_take0 {x0 x1 x2 x4 x7 x10 x11 x12 x13 x14 x15 x16 x17 x18 x19 x20 x21 x22 x23 x24 x25 x26 x27 x28 x29 x30 x31 x32 x33 x34 x35 x36 x37 x38 x39 x40 x41 x42 x43 x44 x45 x46 x47 x48 x49 x51 x52 x53 x54 x55 x56 x57 x58 x59 x60 x61 x62 x63 x64 x65 x66 x67 x68 x69 x70 x71 x72 x73 x74 x75 x76 x77 x78 x79 x80 x81 x82 x83 x84 x85 x86 x87 x88 x89 x90 x91 x92 x93 x94 x95 x96 x97 x98 x99 x100 x101 x102 x103 x104 x105 x106 x107 x108 x109 x110 x111 x112 x113 x114 x115 x116 x117 x118 x119 x120 x121 x122 x123 x124 x125 x126 x127 x128 x129 x130 x131 x132 x133 x134 x135 x136 x137 x138 x139 x140 x141 x142 x143 x144 x145 x146 x147 x148 x149 x150 x151 x152 x153 x154 x155 x156 x157 x158 x159 x160 x161 x162 x163 x164 x165 x166 x167 x168 x169 x170 x171 x172 x173 x174 x175 x176 x177 x178 x179 x180 x181 x182 x183 x184 x185 x186 : Value} {K : Act → World → Prop} {W : World} {base g bl gb c0 : Nat} {C : Bool → Nat} {k : Nat} {X : Nat → Prop} {l1 l2 : Ln} {f : Bool → Lit → Option Value} {m : Bool → Nat} {lf : Bool → List Int → Int} {i : Bool} {wv pk kd : Int} {b8 n z B : Nat} {Ds : List Nat} {xf : Fm}
    (h : KwIn W base g bl gb c0 C k X l1 l2 f m lf i wv pk kd b8 n z B Ds xf) (h0 : n = 0)
    (hK : ∀ (Ds' : List Nat) (y2 y10 y11 y12 y13 y51 y52 y53 y54 y55 y56 y57 y58 y59 y60 y61 y62 y63 y64 y65 y66 y67 y68 y69 y70 y71 y72 y73 y74 y75 y76 y77 y78 y79 y80 y81 y82 y83 y84 y85 y86 y87 y88 y89 y90 y91 y92 y93 y94 y95 y96 y97 y98 y99 y100 y101 y102 y103 y104 y105 y106 y107 y108 y109 y110 y111 y112 y113 y114 y115 y116 y117 y118 y119 y120 y121 y122 y123 y124 y125 y126 y127 y128 y129 y130 y132 y133 y134 y135 y136 y137 y138 y139 y140 y141 y142 y143 y144 y145 y146 y147 y148 y149 y150 y151 y152 y153 y154 y155 y156 y157 y158 y159 y160 y161 y162 y163 y164 y165 y166 y167 y168 : Value) (w' : World), KX W base g bl gb c0 C k l1 l2 B Ds' w' → K ⟨#[x0, x1, y2, .pointer (some ⟨g, 0, none⟩), x4, .pointer (some ⟨bl, 0, none⟩), .pointer (some ⟨gb, 0, none⟩), x7, .pointer (some ⟨b8, 0, none⟩), .int .i64 n, y10, y11, y12, y13, x14, x15, x16, x17, x18, x19, x20, x21, x22, x23, x24, x25, x26, x27, x28, x29, x30, x31, x32, x33, x34, x35, x36, x37, x38, x39, x40, x41, x42, x43, x44, x45, x46, x47, x48, x49, .int .u64 2, y51, y52, y53, y54, y55, y56, y57, y58, y59, y60, y61, y62, y63, y64, y65, y66, y67, y68, y69, y70, y71, y72, y73, y74, y75, y76, y77, y78, y79, y80, y81, y82, y83, y84, y85, y86, y87, y88, y89, y90, y91, y92, y93, y94, y95, y96, y97, y98, y99, y100, y101, y102, y103, y104, y105, y106, y107, y108, y109, y110, y111, y112, y113, y114, y115, y116, y117, y118, y119, y120, y121, y122, y123, y124, y125, y126, y127, y128, y129, y130, x131, y132, y133, y134, y135, y136, y137, y138, y139, y140, y141, y142, y143, y144, y145, y146, y147, y148, y149, y150, y151, y152, y153, y154, y155, y156, y157, y158, y159, y160, y161, y162, y163, y164, y165, y166, y167, y168, x169, x170, x171, x172, x173, x174, x175, x176, x177, x178, x179, x180, x181, x182, x183, x184, x185, x186], Ds'.map mk1⟩ w') :
    Code.wp Try.prog kblk (Exit.then K fun _ _ _ => False) ⟨#[x0, x1, x2, .pointer (some ⟨g, 0, none⟩), x4, .pointer (some ⟨bl, 0, none⟩), .pointer (some ⟨gb, 0, none⟩), x7, .pointer (some ⟨b8, 0, none⟩), .int .i64 n, x10, x11, x12, x13, x14, x15, x16, x17, x18, x19, x20, x21, x22, x23, x24, x25, x26, x27, x28, x29, x30, x31, x32, x33, x34, x35, x36, x37, x38, x39, x40, x41, x42, x43, x44, x45, x46, x47, x48, x49, .int .u64 2, x51, x52, x53, x54, x55, x56, x57, x58, x59, x60, x61, x62, x63, x64, x65, x66, x67, x68, x69, x70, x71, x72, x73, x74, x75, x76, x77, x78, x79, x80, x81, x82, x83, x84, x85, x86, x87, x88, x89, x90, x91, x92, x93, x94, x95, x96, x97, x98, x99, x100, x101, x102, x103, x104, x105, x106, x107, x108, x109, x110, x111, x112, x113, x114, x115, x116, x117, x118, x119, x120, x121, x122, x123, x124, x125, x126, x127, x128, x129, x130, x131, x132, x133, x134, x135, x136, x137, x138, x139, x140, x141, x142, x143, x144, x145, x146, x147, x148, x149, x150, x151, x152, x153, x154, x155, x156, x157, x158, x159, x160, x161, x162, x163, x164, x165, x166, x167, x168, x169, x170, x171, x172, x173, x174, x175, x176, x177, x178, x179, x180, x181, x182, x183, x184, x185, x186], Ds.map mk1⟩ W := by
  have HK := Lib.hid hK
  clear hK
  have a1 : W.cell? ⟨b8, 1, none⟩ = some (.int .i64 wv) := h.B8.cell 1
  have a2 : W.cell? ⟨b8, 2, none⟩ = some (.int .u64 pk) := h.B8.cell 2
  have a3 : W.cell? ⟨b8, 3, none⟩ = some (.slice xf.A xf.n xf.c) := h.B8.cell 3
  obtain ⟨hw0, hw3⟩ := h.wv
  have hn6 := h.n6
  have HS := Lib.hid h
  obtain ⟨HWV⟩ : Nonempty (Hid (wayI i = wv)) := ⟨Lib.hid h.hw.symm⟩
  have HC := Lib.hid (take_none h.kn.nt i pk (List.eq_nil_of_length_eq_zero (by rw [h.hn, h0])))
  rw [HWV.out] at HC
  clear h h0
  conv => arg 2; whnf
  go_wp2_with fail
  refine HC.out.mono ?_
  rintro e w2 ⟨rfl, rfl⟩
  go_wp2_with fail
  refine HK.out _ _ _ _ _ _ _ _ _ _ _ _ _ _ _ _ _ _ _ _ _ _ _ _ _ _ _ _ _ _ _ _ _ _ _ _ _ _ _ _ _ _ _ _ _ _ _ _ _ _ _ _ _ _ _ _ _ _ _ _ _ _ _ _ _ _ _ _ _ _ _ _ _ _ _ _ _ _ _ _ _ _ _ _ _ _ _ _ _ _ _ _ _ _ _ _ _ _ _ _ _ _ _ _ _ _ _ _ _ _ _ _ _ _ _ _ _ _ _ _ _ _ _ _ ?_
  exact HS.out.kn.idle (S := NoB) (Fr.refl _ _) (fun _ x => x.elim) HS.out.mrk
set_option maxHeartbeats 8000000 in
set_option maxRecDepth 100000 in
theorem ks_take1 {x0 x1 x2 x4 x7 x10 x11 x12 x13 x14 x15 x16 x17 x18 x19 x20 x21 x22 x23 x24 x25 x26 x27 x28 x29 x30 x31 x32 x33 x34 x35 x36 x37 x38 x39 x40 x41 x42 x43 x44 x45 x46 x47 x48 x49 x51 x52 x53 x54 x55 x56 x57 x58 x59 x60 x61 x62 x63 x64 x65 x66 x67 x68 x69 x70 x71 x72 x73 x74 x75 x76 x77 x78 x79 x80 x81 x82 x83 x84 x85 x86 x87 x88 x89 x90 x91 x92 x93 x94 x95 x96 x97 x98 x99 x100 x101 x102 x103 x104 x105 x106 x107 x108 x109 x110 x111 x112 x113 x114 x115 x116 x117 x118 x119 x120 x121 x122 x123 x124 x125 x126 x127 x128 x129 x130 x131 x132 x133 x134 x135 x136 x137 x138 x139 x140 x141 x142 x143 x144 x145 x146 x147 x148 x149 x150 x151 x152 x153 x154 x155 x156 x157 x158 x159 x160 x161 x162 x163 x164 x165 x166 x167 x168 x169 x170 x171 x172 x173 x174 x175 x176 x177 x178 x179 x180 x181 x182 x183 x184 x185 x186 : Value} {K : Act → World → Prop} {W : World} {base g bl gb c0 : Nat} {C : Bool → Nat} {k : Nat} {X : Nat → Prop} {l1 l2 : Ln} {f : Bool → Lit → Option Value} {m : Bool → Nat} {lf : Bool → List Int → Int} {i : Bool} {wv pk kd : Int} {b8 n z B : Nat} {Ds : List Nat} {xf : Fm}
    (h : KwIn W base g bl gb c0 C k X l1 l2 f m lf i wv pk kd b8 n z B Ds xf) (h0 : 0 < n)
    (hK : ∀ (Ds' : List Nat) (y2 y10 y11 y12 y13 y51 y52 y53 y54 y55 y56 y57 y58 y59 y60 y61 y62 y63 y64 y65 y66 y67 y68 y69 y70 y71 y72 y73 y74 y75 y76 y77 y78 y79 y80 y81 y82 y83 y84 y85 y86 y87 y88 y89 y90 y91 y92 y93 y94 y95 y96 y97 y98 y99 y100 y101 y102 y103 y104 y105 y106 y107 y108 y109 y110 y111 y112 y113 y114 y115 y116 y117 y118 y119 y120 y121 y122 y123 y124 y125 y126 y127 y128 y129 y130 y132 y133 y134 y135 y136 y137 y138 y139 y140 y141 y142 y143 y144 y145 y146 y147 y148 y149 y150 y151 y152 y153 y154 y155 y156 y157 y158 y159 y160 y161 y162 y163 y164 y165 y166 y167 y168 : Value) (w' : World), KX W base g bl gb c0 C k l1 l2 B Ds' w' → K ⟨#[x0, x1, y2, .pointer (some ⟨g, 0, none⟩), x4, .pointer (some ⟨bl, 0, none⟩), .pointer (some ⟨gb, 0, none⟩), x7, .pointer (some ⟨b8, 0, none⟩), .int .i64 n, y10, y11, y12, y13, x14, x15, x16, x17, x18, x19, x20, x21, x22, x23, x24, x25, x26, x27, x28, x29, x30, x31, x32, x33, x34, x35, x36, x37, x38, x39, x40, x41, x42, x43, x44, x45, x46, x47, x48, x49, .int .u64 2, y51, y52, y53, y54, y55, y56, y57, y58, y59, y60, y61, y62, y63, y64, y65, y66, y67, y68, y69, y70, y71, y72, y73, y74, y75, y76, y77, y78, y79, y80, y81, y82, y83, y84, y85, y86, y87, y88, y89, y90, y91, y92, y93, y94, y95, y96, y97, y98, y99, y100, y101, y102, y103, y104, y105, y106, y107, y108, y109, y110, y111, y112, y113, y114, y115, y116, y117, y118, y119, y120, y121, y122, y123, y124, y125, y126, y127, y128, y129, y130, x131, y132, y133, y134, y135, y136, y137, y138, y139, y140, y141, y142, y143, y144, y145, y146, y147, y148, y149, y150, y151, y152, y153, y154, y155, y156, y157, y158, y159, y160, y161, y162, y163, y164, y165, y166, y167, y168, x169, x170, x171, x172, x173, x174, x175, x176, x177, x178, x179, x180, x181, x182, x183, x184, x185, x186], Ds'.map mk1⟩ w') :
    Code.wp Try.prog kblk (Exit.then K fun _ _ _ => False) ⟨#[x0, x1, x2, .pointer (some ⟨g, 0, none⟩), x4, .pointer (some ⟨bl, 0, none⟩), .pointer (some ⟨gb, 0, none⟩), x7, .pointer (some ⟨b8, 0, none⟩), .int .i64 n, x10, x11, x12, x13, x14, x15, x16, x17, x18, x19, x20, x21, x22, x23, x24, x25, x26, x27, x28, x29, x30, x31, x32, x33, x34, x35, x36, x37, x38, x39, x40, x41, x42, x43, x44, x45, x46, x47, x48, x49, .int .u64 2, x51, x52, x53, x54, x55, x56, x57, x58, x59, x60, x61, x62, x63, x64, x65, x66, x67, x68, x69, x70, x71, x72, x73, x74, x75, x76, x77, x78, x79, x80, x81, x82, x83, x84, x85, x86, x87, x88, x89, x90, x91, x92, x93, x94, x95, x96, x97, x98, x99, x100, x101, x102, x103, x104, x105, x106, x107, x108, x109, x110, x111, x112, x113, x114, x115, x116, x117, x118, x119, x120, x121, x122, x123, x124, x125, x126, x127, x128, x129, x130, x131, x132, x133, x134, x135, x136, x137, x138, x139, x140, x141, x142, x143, x144, x145, x146, x147, x148, x149, x150, x151, x152, x153, x154, x155, x156, x157, x158, x159, x160, x161, x162, x163, x164, x165, x166, x167, x168, x169, x170, x171, x172, x173, x174, x175, x176, x177, x178, x179, x180, x181, x182, x183, x184, x185, x186], Ds.map mk1⟩ W := by
  have HK := Lib.hid hK
  clear hK
  have a1 : W.cell? ⟨b8, 1, none⟩ = some (.int .i64 wv) := h.B8.cell 1
  have a2 : W.cell? ⟨b8, 2, none⟩ = some (.int .u64 pk) := h.B8.cell 2
  have a3 : W.cell? ⟨b8, 3, none⟩ = some (.slice xf.A xf.n xf.c) := h.B8.cell 3
  obtain ⟨hw0, hw3⟩ := h.wv
  have hn6 := h.n6
  have HS := Lib.hid h
  obtain ⟨HWV⟩ : Nonempty (Hid (wayI i = wv)) := ⟨Lib.hid h.hw.symm⟩
  have HC := Lib.hid (take_in h.kn.nt i pk h.p0 h.p1 (by rw [h.hn]; exact h0))
  rw [HWV.out] at HC
  clear h
  conv => arg 2; whnf
  go_wp2_with fail
  refine HC.out.mono ?_
  rintro e w2 ⟨y, l', hy, rfl, hN2, hL2, hlo, hRy, hBy, hF2, hl2⟩
  have b1 := hF2.cell_some a1 (fun e => HS.out.far HS.out.y8 (.inl e))
  have hGB2 : Blk w2 gb 49 (gcs l1.L.length l2.L.length) := HS.out.kn.GB.fr hF2 (fun e => HS.out.kn.apart _ (.inl e) (.inr (.inl rfl)))
  have hBL2 := HS.out.kn.BL.fr hF2 (fun e => HS.out.kn.apart _ (.inl e) (.inl rfl))
  have hM2 : MapAt w2 Try.prog 9 (C i) (m i) (f i) := (HS.out.kn.M i).fr hF2 (fun e => HS.out.kn.apart _ (.inl e) (.inr (.inr ⟨i, rfl⟩)))
  have am : w2.cell? ⟨bl, wv.toNat, none⟩ = some (.map (some (C i))) := by
    rw [hBL2.cell, HS.out.hw]
    cases i <;> rfl
  have hym : y ∈ (sel i l1 l2).L := List.mem_of_getElem? hy
  have hyn := ((HS.out.kn.nt.at i).2.2.reads y hym).2.2
  have hxl : y.xs.length = y.n := by have := hRy.1; rw [u8s_len] at this; omega
  have hko := key_of (xs := y.xs) (by omega)
  obtain ⟨v, hv⟩ : ∃ v, v = lf i y.xs := ⟨_, rfl⟩
  have hv1 : 1 ≤ v := by
    have h1 := cnt_pos _ _ _ hy
    have h2 := (HS.out.kn.low i y.xs).1
    unfold cntF at h2
    omega
  have hv6 : v ≤ 600 := by have := (HS.out.kn.low i y.xs).2; have := HS.out.k6; omega
  have hvb : decide (v < 1) = false := decide_eq_false (by omega)
  have hcv := fun q => run_conv (c := y.c) (w := w2.drewN q) hRy
  have hlk : ∀ q, (Instr.lookup 30 (.map (some (C i))) (.string (strOfNums y.xs)) false).run Try.prog (w2.drewN q) = .ok (.int .i64 v) (w2.drewN q) := fun q => by
    have hM : MapAt (w2.drewN q) Try.prog 9 (C i) (m i) (f i) := hM2
    have := (hM.look keyS Try.underlying30 (z := .int .i64 0) (by kernel_rfl) hko).2
    rwa [HS.out.kn.cnt i y.xs hBy, ← hv] at this
  have HKO := Lib.hid hko
  have HM2 := Lib.hid hM2
  have HGB2 := Lib.hid hGB2
  have HN2 := Lib.hid hN2
  have HF2 := Lib.hid hF2
  have HBY := Lib.hid hBy
  have HY := Lib.hid hy
  have HRY := Lib.hid hRy
  have hm6 : m i < 1000000 := by have := HS.out.k6; have := HS.out.kn.mle i; omega
  have HL2 := Lib.hid hL2
  have HLL : Hid (∀ j, Lo l' j → Lo (sel i l1 l2) j ∨ W.heap.size ≤ j) := Lib.hid (fun j hj => .inl (hl2 j hj))
  have HXX : Hid (∀ j, X j → X j ∨ W.heap.size ≤ j) := Lib.hid (fun _ => .inl)
  have HV := Lib.hid hv
  have hlt : (sel i l1 l2).L.length = n := HS.out.hn
  have HLT := Lib.hid hlt
  clear hN2 hF2 hlo hBy hl2 hBL2 hGB2 hM2 hym hyn hxl hRy hy hL2 a1 a2 a3 HC hko hv hlt
  obtain ⟨yA, yn, yc, ys⟩ := y
  simp only [Fm.val]
  dsimp only at HBY HKO hcv hlk HV HY HRY
  obtain ⟨st, hst⟩ : ∃ st, st = strOfNums ys := ⟨_, rfl⟩
  have HST : Hid (strOfNums ys = st) := Lib.hid hst.symm
  rw [← hst] at HKO
  simp only [← hst] at hcv hlk
  clear hst
  go_wp2_with fail
  go_quiet (fail)
  go_wp2_with fail
  refine wp_still_tail 8 (by kernel_rfl) (by kernel_rfl) ?_
  intro w3 hN3 hh3
  have hN23 : New w2 w3 := (New.dn (New.refl w2) nq).tr hN3
  have hM3 : MapAt w3 Try.prog 9 (C i) (m i) (f i) := HM2.out.fr (hN23.toFr NoB) (fun x => x)
  have q1 := hN23.cell_ b1
  have q2 := hN23.cell_ am
  have hcv3 := run_conv (c := yc) (w := w3) (hN23.rd HRY.out)
  rw [HST.out] at hcv3
  have hlk3 := (hM3.look keyS Try.underlying30 (z := .int .i64 0) (by kernel_rfl) HKO.out).2
  rw [HS.out.kn.cnt i ys HBY.out, ← HV.out] at hlk3
  have HM3 := Lib.hid hM3
  have HN23 : Hid (New w2 w3) := Lib.hid hN23
  clear hM3 hN23 hN3 hh3 hcv hlk am
  simp only [List.take_succ_cons, List.take_zero, List.drop_succ_cons, List.drop_zero]
  repeat still_step
  refine wpStill_nil ?_
  have hr1 : IntKind.i64.wrap (v - 1) = v - 1 := IntWalk.i64_in _ (by omega)
  refine wpList_mstore HM3.out keyS Try.underlying30 (by unfold maxLen; omega) rfl (.tmp 99) (.tmp 101) (.tmp 103) rfl rfl (.string st) (.int .i64 (v - 1)) (key ys) rfl (congrArg (Value.int .i64) hr1) HKO.out ?_
  intro w4 hM4 hF34
  have hF4 : Fr (fun j => j = C i) w2 w4 := (HN23.out.toFr _).trans hF34
  clear hF34
  have hb4 : w4.cell? ⟨b8, 1, none⟩ = some (.int .i64 wv) := hF4.cell_some b1 (fun e => HS.out.far HS.out.y8 (.inr (.inr e)))
  have hGB4 : Blk w4 gb 49 (gcs l1.L.length l2.L.length) := HGB2.out.fr hF4 (fun e => blk_ne_map HS.out.kn.GB (HS.out.kn.M i) e)
  have HF4 := Lib.hid hF4
  have HM4 := Lib.hid hM4
  clear hF4 hM4
  have g4 : w4.cell? ⟨gb, wv.toNat, none⟩ = some (.int .i64 (-(n : Int))) := by
    rw [hGB4.cell, HS.out.hw, gcs_at, HS.out.hn]
  have k4 : w4.frozen? ⟨gb, wv.toNat, none⟩ = false := hGB4.frozen _
  have HGB4 := Lib.hid hGB4
  clear hGB4
  clear b1 q1 q2 hcv3 hlk3
  go_wp2_with fail
  refine HK.out _ _ _ _ _ _ _ _ _ _ _ _ _ _ _ _ _ _ _ _ _ _ _ _ _ _ _ _ _ _ _ _ _ _ _ _ _ _ _ _ _ _ _ _ _ _ _ _ _ _ _ _ _ _ _ _ _ _ _ _ _ _ _ _ _ _ _ _ _ _ _ _ _ _ _ _ _ _ _ _ _ _ _ _ _ _ _ _ _ _ _ _ _ _ _ _ _ _ _ _ _ _ _ _ _ _ _ _ _ _ _ _ _ _ _ _ _ _ _ _ _ _ _ _ ?_
  obtain ⟨w5, hw5⟩ : ∃ w5, w5 = (w4.setCell ⟨gb, wv.toNat, none⟩ (.int .i64 (-(n : Int) + 1))) := ⟨_, rfl⟩
  have hF5 : Fr (fun j => j = gb) w4 w5 := hw5 ▸ (Fr.refl (fun j => j = gb) w4).setCell (p := ⟨gb, wv.toNat, none⟩) (fun _ => rfl) _
  have hFF : Fr (fun j => No g l1 l2 j ∨ j = gb ∨ j = C i) W w5 := ((HF2.out.mono fun _ _ e => .inl e).trans (HF4.out.mono fun _ _ e => .inr (.inr e))).trans (hF5.mono fun _ _ e => .inr (.inl e))
  have hG5 : Blk w5 gb 49 (gcs (put1 i l1 l').L.length (put2 i l2 l').L.length) := by
    have h := HGB4.out.set wv.toNat (.int .i64 (-(n : Int) + 1))
    rw [← hw5] at h
    have e1 : (-(n : Int) + 1 : Int) = -(l'.L.length : Int) := by
      have h := HL2.out
      rw [h, List.length_eraseIdx, if_pos (by rw [HLT.out]; exact Nat.mod_lt _ h0), HLT.out]
      omega

    rw [e1, HS.out.hw, gcs_set] at h
    exact h
  rw [← hw5]
  clear hw5
  refine HS.out.kn.step i (l' := l') (((HN2.out.fr HF4.out ?n1 ?n2).fr hF5 ?n3 ?n4).up (Nat.le_succ _)) hFF hG5 (HM4.out.fr hF5 (fun e => blk_ne_map HS.out.kn.GB (HS.out.kn.M i) e.symm)) ?hm ?hc (lf' := fun xs => if xs = ys then v - 1 else lf i xs) ?hlf HXX.out HLL.out (HS.out.mrk.fr hFF (fun D hD => HS.out.kn.no_def (hD.imp id (fun e => e.imp id (fun e => ⟨i, e⟩)))))
  case n1 =>
    rintro j rfl hj
    rcases no_put (W := W) hj (HLL.out _) with e | e
    · exact HS.out.kn.apart _ (.inl e) (.inr (.inr ⟨i, rfl⟩))
    · exact absurd (HS.out.kn.M i).lt (by omega)
  case n2 =>
    rintro j rfl hj
    rcases HXX.out _ hj with e | e
    · exact HS.out.kn.apart _ (.inr e) (.inr (.inr ⟨i, rfl⟩))
    · exact absurd (HS.out.kn.M i).lt (by omega)
  case n3 =>
    rintro j rfl hj
    rcases no_put (W := W) hj (HLL.out _) with e | e
    · exact HS.out.kn.apart _ (.inl e) (.inr (.inl rfl))
    · exact absurd HS.out.kn.GB.lt (by omega)
  case n4 =>
    rintro j rfl hj
    rcases HXX.out _ hj with e | e
    · exact HS.out.kn.apart _ (.inr e) (.inr (.inl rfl))
    · exact absurd HS.out.kn.GB.lt (by omega)
  case hm => have := HS.out.kn.mle i; omega
  case hc => exact some_put (HS.out.kn.cnt i) ys HBY.out (v - 1)
  case hlf =>
    intro xs
    have hlow := HS.out.kn.low i xs
    have h1 := cnt_erase _ _ _ HY.out xs
    unfold cntF at *
    rw [HL2.out]
    dsimp only at h1 ⊢
    have hv := HV.out
    by_cases e : xs = ys
    · subst e
      rw [if_pos rfl] at *
      omega
    · rw [if_neg e] at *
      omega
set_option maxHeartbeats 8000000 in
set_option maxRecDepth 100000 in
theorem ks_lose0 {x0 x1 x2 x4 x7 x10 x11 x12 x13 x14 x15 x16 x17 x18 x19 x20 x21 x22 x23 x24 x25 x26 x27 x28 x29 x30 x31 x32 x33 x34 x35 x36 x37 x38 x39 x40 x41 x42 x43 x44 x45 x46 x47 x48 x49 x51 x52 x53 x54 x55 x56 x57 x58 x59 x60 x61 x62 x63 x64 x65 x66 x67 x68 x69 x70 x71 x72 x73 x74 x75 x76 x77 x78 x79 x80 x81 x82 x83 x84 x85 x86 x87 x88 x89 x90 x91 x92 x93 x94 x95 x96 x97 x98 x99 x100 x101 x102 x103 x104 x105 x106 x107 x108 x109 x110 x111 x112 x113 x114 x115 x116 x117 x118 x119 x120 x121 x122 x123 x124 x125 x126 x127 x128 x129 x130 x131 x132 x133 x134 x135 x136 x137 x138 x139 x140 x141 x142 x143 x144 x145 x146 x147 x148 x149 x150 x151 x152 x153 x154 x155 x156 x157 x158 x159 x160 x161 x162 x163 x164 x165 x166 x167 x168 x169 x170 x171 x172 x173 x174 x175 x176 x177 x178 x179 x180 x181 x182 x183 x184 x185 x186 : Value} {K : Act → World → Prop} {W : World} {base g bl gb c0 : Nat} {C : Bool → Nat} {k : Nat} {X : Nat → Prop} {l1 l2 : Ln} {f : Bool → Lit → Option Value} {m : Bool → Nat} {lf : Bool → List Int → Int} {i : Bool} {wv pk kd : Int} {b8 n z B : Nat} {Ds : List Nat} {xf : Fm}
    (h : KwIn W base g bl gb c0 C k X l1 l2 f m lf i wv pk kd b8 n z B Ds xf) (h0 : n = 0)
    (hK : ∀ (Ds' : List Nat) (y2 y10 y11 y12 y13 y51 y52 y53 y54 y55 y56 y57 y58 y59 y60 y61 y62 y63 y64 y65 y66 y67 y68 y69 y70 y71 y72 y73 y74 y75 y76 y77 y78 y79 y80 y81 y82 y83 y84 y85 y86 y87 y88 y89 y90 y91 y92 y93 y94 y95 y96 y97 y98 y99 y100 y101 y102 y103 y104 y105 y106 y107 y108 y109 y110 y111 y112 y113 y114 y115 y116 y117 y118 y119 y120 y121 y122 y123 y124 y125 y126 y127 y128 y129 y130 y132 y133 y134 y135 y136 y137 y138 y139 y140 y141 y142 y143 y144 y145 y146 y147 y148 y149 y150 y151 y152 y153 y154 y155 y156 y157 y158 y159 y160 y161 y162 y163 y164 y165 y166 y167 y168 : Value) (w' : World), KX W base g bl gb c0 C k l1 l2 B Ds' w' → K ⟨#[x0, x1, y2, .pointer (some ⟨g, 0, none⟩), x4, .pointer (some ⟨bl, 0, none⟩), .pointer (some ⟨gb, 0, none⟩), x7, .pointer (some ⟨b8, 0, none⟩), .int .i64 n, y10, y11, y12, y13, x14, x15, x16, x17, x18, x19, x20, x21, x22, x23, x24, x25, x26, x27, x28, x29, x30, x31, x32, x33, x34, x35, x36, x37, x38, x39, x40, x41, x42, x43, x44, x45, x46, x47, x48, x49, .int .u64 3, y51, y52, y53, y54, y55, y56, y57, y58, y59, y60, y61, y62, y63, y64, y65, y66, y67, y68, y69, y70, y71, y72, y73, y74, y75, y76, y77, y78, y79, y80, y81, y82, y83, y84, y85, y86, y87, y88, y89, y90, y91, y92, y93, y94, y95, y96, y97, y98, y99, y100, y101, y102, y103, y104, y105, y106, y107, y108, y109, y110, y111, y112, y113, y114, y115, y116, y117, y118, y119, y120, y121, y122, y123, y124, y125, y126, y127, y128, y129, y130, x131, y132, y133, y134, y135, y136, y137, y138, y139, y140, y141, y142, y143, y144, y145, y146, y147, y148, y149, y150, y151, y152, y153, y154, y155, y156, y157, y158, y159, y160, y161, y162, y163, y164, y165, y166, y167, y168, x169, x170, x171, x172, x173, x174, x175, x176, x177, x178, x179, x180, x181, x182, x183, x184, x185, x186], Ds'.map mk1⟩ w') :
    Code.wp Try.prog kblk (Exit.then K fun _ _ _ => False) ⟨#[x0, x1, x2, .pointer (some ⟨g, 0, none⟩), x4, .pointer (some ⟨bl, 0, none⟩), .pointer (some ⟨gb, 0, none⟩), x7, .pointer (some ⟨b8, 0, none⟩), .int .i64 n, x10, x11, x12, x13, x14, x15, x16, x17, x18, x19, x20, x21, x22, x23, x24, x25, x26, x27, x28, x29, x30, x31, x32, x33, x34, x35, x36, x37, x38, x39, x40, x41, x42, x43, x44, x45, x46, x47, x48, x49, .int .u64 3, x51, x52, x53, x54, x55, x56, x57, x58, x59, x60, x61, x62, x63, x64, x65, x66, x67, x68, x69, x70, x71, x72, x73, x74, x75, x76, x77, x78, x79, x80, x81, x82, x83, x84, x85, x86, x87, x88, x89, x90, x91, x92, x93, x94, x95, x96, x97, x98, x99, x100, x101, x102, x103, x104, x105, x106, x107, x108, x109, x110, x111, x112, x113, x114, x115, x116, x117, x118, x119, x120, x121, x122, x123, x124, x125, x126, x127, x128, x129, x130, x131, x132, x133, x134, x135, x136, x137, x138, x139, x140, x141, x142, x143, x144, x145, x146, x147, x148, x149, x150, x151, x152, x153, x154, x155, x156, x157, x158, x159, x160, x161, x162, x163, x164, x165, x166, x167, x168, x169, x170, x171, x172, x173, x174, x175, x176, x177, x178, x179, x180, x181, x182, x183, x184, x185, x186], Ds.map mk1⟩ W := by
  have HK := Lib.hid hK
  clear hK
  have a1 : W.cell? ⟨b8, 1, none⟩ = some (.int .i64 wv) := h.B8.cell 1
  have a2 : W.cell? ⟨b8, 2, none⟩ = some (.int .u64 pk) := h.B8.cell 2
  have a3 : W.cell? ⟨b8, 3, none⟩ = some (.slice xf.A xf.n xf.c) := h.B8.cell 3
  obtain ⟨hw0, hw3⟩ := h.wv
  have hn6 := h.n6
  have HS := Lib.hid h
  obtain ⟨HWV⟩ : Nonempty (Hid (wayI i = wv)) := ⟨Lib.hid h.hw.symm⟩
  have HC := Lib.hid (lose_none h.kn.nt i pk (List.eq_nil_of_length_eq_zero (by rw [h.hn, h0])))
  rw [HWV.out] at HC
  clear h h0
  conv => arg 2; whnf
  go_wp2_with fail
  refine HC.out.mono ?_
  rintro e w2 ⟨rfl, rfl⟩
  go_wp2_with fail
  refine HK.out _ _ _ _ _ _ _ _ _ _ _ _ _ _ _ _ _ _ _ _ _ _ _ _ _ _ _ _ _ _ _ _ _ _ _ _ _ _ _ _ _ _ _ _ _ _ _ _ _ _ _ _ _ _ _ _ _ _ _ _ _ _ _ _ _ _ _ _ _ _ _ _ _ _ _ _ _ _ _ _ _ _ _ _ _ _ _ _ _ _ _ _ _ _ _ _ _ _ _ _ _ _ _ _ _ _ _ _ _ _ _ _ _ _ _ _ _ _ _ _ _ _ _ _ ?_
  exact HS.out.kn.idle (S := NoB) (Fr.refl _ _) (fun _ x => x.elim) HS.out.mrk
set_option maxHeartbeats 8000000 in
set_option maxRecDepth 100000 in
theorem ks_lose1 {x0 x1 x2 x4 x7 x10 x11 x12 x13 x14 x15 x16 x17 x18 x19 x20 x21 x22 x23 x24 x25 x26 x27 x28 x29 x30 x31 x32 x33 x34 x35 x36 x37 x38 x39 x40 x41 x42 x43 x44 x45 x46 x47 x48 x49 x51 x52 x53 x54 x55 x56 x57 x58 x59 x60 x61 x62 x63 x64 x65 x66 x67 x68 x69 x70 x71 x72 x73 x74 x75 x76 x77 x78 x79 x80 x81 x82 x83 x84 x85 x86 x87 x88 x89 x90 x91 x92 x93 x94 x95 x96 x97 x98 x99 x100 x101 x102 x103 x104 x105 x106 x107 x108 x109 x110 x111 x112 x113 x114 x115 x116 x117 x118 x119 x120 x121 x122 x123 x124 x125 x126 x127 x128 x129 x130 x131 x132 x133 x134 x135 x136 x137 x138 x139 x140 x141 x142 x143 x144 x145 x146 x147 x148 x149 x150 x151 x152 x153 x154 x155 x156 x157 x158 x159 x160 x161 x162 x163 x164 x165 x166 x167 x168 x169 x170 x171 x172 x173 x174 x175 x176 x177 x178 x179 x180 x181 x182 x183 x184 x185 x186 : Value} {K : Act → World → Prop} {W : World} {base g bl gb c0 : Nat} {C : Bool → Nat} {k : Nat} {X : Nat → Prop} {l1 l2 : Ln} {f : Bool → Lit → Option Value} {m : Bool → Nat} {lf : Bool → List Int → Int} {i : Bool} {wv pk kd : Int} {b8 n z B : Nat} {Ds : List Nat} {xf : Fm}
    (h : KwIn W base g bl gb c0 C k X l1 l2 f m lf i wv pk kd b8 n z B Ds xf) (h0 : 0 < n) (y : Fm) (hy : (sel i l1 l2).L[pk.toNat % n]? = some y) (hsp : (sel i l1 l2).lost y.xs < 3 - 1)
    (hK : ∀ (Ds' : List Nat) (y2 y10 y11 y12 y13 y51 y52 y53 y54 y55 y56 y57 y58 y59 y60 y61 y62 y63 y64 y65 y66 y67 y68 y69 y70 y71 y72 y73 y74 y75 y76 y77 y78 y79 y80 y81 y82 y83 y84 y85 y86 y87 y88 y89 y90 y91 y92 y93 y94 y95 y96 y97 y98 y99 y100 y101 y102 y103 y104 y105 y106 y107 y108 y109 y110 y111 y112 y113 y114 y115 y116 y117 y118 y119 y120 y121 y122 y123 y124 y125 y126 y127 y128 y129 y130 y132 y133 y134 y135 y136 y137 y138 y139 y140 y141 y142 y143 y144 y145 y146 y147 y148 y149 y150 y151 y152 y153 y154 y155 y156 y157 y158 y159 y160 y161 y162 y163 y164 y165 y166 y167 y168 : Value) (w' : World), KX W base g bl gb c0 C k l1 l2 B Ds' w' → K ⟨#[x0, x1, y2, .pointer (some ⟨g, 0, none⟩), x4, .pointer (some ⟨bl, 0, none⟩), .pointer (some ⟨gb, 0, none⟩), x7, .pointer (some ⟨b8, 0, none⟩), .int .i64 n, y10, y11, y12, y13, x14, x15, x16, x17, x18, x19, x20, x21, x22, x23, x24, x25, x26, x27, x28, x29, x30, x31, x32, x33, x34, x35, x36, x37, x38, x39, x40, x41, x42, x43, x44, x45, x46, x47, x48, x49, .int .u64 3, y51, y52, y53, y54, y55, y56, y57, y58, y59, y60, y61, y62, y63, y64, y65, y66, y67, y68, y69, y70, y71, y72, y73, y74, y75, y76, y77, y78, y79, y80, y81, y82, y83, y84, y85, y86, y87, y88, y89, y90, y91, y92, y93, y94, y95, y96, y97, y98, y99, y100, y101, y102, y103, y104, y105, y106, y107, y108, y109, y110, y111, y112, y113, y114, y115, y116, y117, y118, y119, y120, y121, y122, y123, y124, y125, y126, y127, y128, y129, y130, x131, y132, y133, y134, y135, y136, y137, y138, y139, y140, y141, y142, y143, y144, y145, y146, y147, y148, y149, y150, y151, y152, y153, y154, y155, y156, y157, y158, y159, y160, y161, y162, y163, y164, y165, y166, y167, y168, x169, x170, x171, x172, x173, x174, x175, x176, x177, x178, x179, x180, x181, x182, x183, x184, x185, x186], Ds'.map mk1⟩ w') :
    Code.wp Try.prog kblk (Exit.then K fun _ _ _ => False) ⟨#[x0, x1, x2, .pointer (some ⟨g, 0, none⟩), x4, .pointer (some ⟨bl, 0, none⟩), .pointer (some ⟨gb, 0, none⟩), x7, .pointer (some ⟨b8, 0, none⟩), .int .i64 n, x10, x11, x12, x13, x14, x15, x16, x17, x18, x19, x20, x21, x22, x23, x24, x25, x26, x27, x28, x29, x30, x31, x32, x33, x34, x35, x36, x37, x38, x39, x40, x41, x42, x43, x44, x45, x46, x47, x48, x49, .int .u64 3, x51, x52, x53, x54, x55, x56, x57, x58, x59, x60, x61, x62, x63, x64, x65, x66, x67, x68, x69, x70, x71, x72, x73, x74, x75, x76, x77, x78, x79, x80, x81, x82, x83, x84, x85, x86, x87, x88, x89, x90, x91, x92, x93, x94, x95, x96, x97, x98, x99, x100, x101, x102, x103, x104, x105, x106, x107, x108, x109, x110, x111, x112, x113, x114, x115, x116, x117, x118, x119, x120, x121, x122, x123, x124, x125, x126, x127, x128, x129, x130, x131, x132, x133, x134, x135, x136, x137, x138, x139, x140, x141, x142, x143, x144, x145, x146, x147, x148, x149, x150, x151, x152, x153, x154, x155, x156, x157, x158, x159, x160, x161, x162, x163, x164, x165, x166, x167, x168, x169, x170, x171, x172, x173, x174, x175, x176, x177, x178, x179, x180, x181, x182, x183, x184, x185, x186], Ds.map mk1⟩ W := by
  have HK := Lib.hid hK
  clear hK
  have a1 : W.cell? ⟨b8, 1, none⟩ = some (.int .i64 wv) := h.B8.cell 1
  have a2 : W.cell? ⟨b8, 2, none⟩ = some (.int .u64 pk) := h.B8.cell 2
  have a3 : W.cell? ⟨b8, 3, none⟩ = some (.slice xf.A xf.n xf.c) := h.B8.cell 3
  obtain ⟨hw0, hw3⟩ := h.wv
  have hn6 := h.n6
  have HS := Lib.hid h
  obtain ⟨HWV⟩ : Nonempty (Hid (wayI i = wv)) := ⟨Lib.hid h.hw.symm⟩
  have hy' := hy
  rw [← h.hn] at hy'
  have HC := Lib.hid (lose_in h.kn.nt i pk h.p0 h.p1 y (by have := h.k6; omega) hy')
  rw [HWV.out, h.hn] at HC
  have HSP := Lib.hid hsp
  have HY := Lib.hid hy
  have HLT := Lib.hid h.hn
  clear hsp hy hy' h
  conv => arg 2; whnf
  go_wp2_with fail
  refine HC.out.mono ?_
  rintro e w4 ⟨-, h2⟩
  obtain ⟨rfl, l', hN2, hL2, -, hF2, hl2⟩ := h2 HSP.out
  have hb4 : w4.cell? ⟨b8, 1, none⟩ = some (.int .i64 wv) := hF2.cell_some a1 (fun e => HS.out.far HS.out.y8 (.inl e))
  have hGB4 : Blk w4 gb 49 (gcs l1.L.length l2.L.length) := HS.out.kn.GB.fr hF2 (fun e => HS.out.kn.apart _ (.inl e) (.inr (.inl rfl)))
  have HM4 : Hid (MapAt w4 Try.prog 9 (C i) (m i) (f i)) := Lib.hid ((HS.out.kn.M i).fr hF2 (fun e => HS.out.kn.apart _ (.inl e) (.inr (.inr ⟨i, rfl⟩))))
  have HF4 : Hid (Fr (fun j => j = C i) w4 w4) := Lib.hid (Fr.refl _ _)
  have HN2 := Lib.hid hN2
  have HF2 := Lib.hid hF2
  have HL2 := Lib.hid hL2
  have HLL : Hid (∀ j, Lo l' j → Lo (sel i l1 l2) j ∨ W.heap.size ≤ j) := Lib.hid (fun j hj => .inl (hl2 j hj))
  have HXX : Hid (∀ j, X j → X j ∨ W.heap.size ≤ j) := Lib.hid (fun _ => .inl)
  clear hN2 hF2 hl2 hL2 a1 a2 a3 HC h2
  have g4 : w4.cell? ⟨gb, wv.toNat, none⟩ = some (.int .i64 (-(n : Int))) := by
    rw [hGB4.cell, HS.out.hw, gcs_at, HS.out.hn]
  have k4 : w4.frozen? ⟨gb, wv.toNat, none⟩ = false := hGB4.frozen _
  have HGB4 := Lib.hid hGB4
  clear hGB4
  go_wp2_with fail
  refine HK.out _ _ _ _ _ _ _ _ _ _ _ _ _ _ _ _ _ _ _ _ _ _ _ _ _ _ _ _ _ _ _ _ _ _ _ _ _ _ _ _ _ _ _ _ _ _ _ _ _ _ _ _ _ _ _ _ _ _ _ _ _ _ _ _ _ _ _ _ _ _ _ _ _ _ _ _ _ _ _ _ _ _ _ _ _ _ _ _ _ _ _ _ _ _ _ _ _ _ _ _ _ _ _ _ _ _ _ _ _ _ _ _ _ _ _ _ _ _ _ _ _ _ _ _ ?_
  obtain ⟨w5, hw5⟩ : ∃ w5, w5 = (w4.setCell ⟨gb, wv.toNat, none⟩ (.int .i64 (-(n : Int) + 1))) := ⟨_, rfl⟩
  have hF5 : Fr (fun j => j = gb) w4 w5 := hw5 ▸ (Fr.refl (fun j => j = gb) w4).setCell (p := ⟨gb, wv.toNat, none⟩) (fun _ => rfl) _
  have hFF : Fr (fun j => No g l1 l2 j ∨ j = gb ∨ j = C i) W w5 := ((HF2.out.mono fun _ _ e => .inl e).trans (HF4.out.mono fun _ _ e => .inr (.inr e))).trans (hF5.mono fun _ _ e => .inr (.inl e))
  have hG5 : Blk w5 gb 49 (gcs (put1 i l1 l').L.length (put2 i l2 l').L.length) := by
    have h := HGB4.out.set wv.toNat (.int .i64 (-(n : Int) + 1))
    rw [← hw5] at h
    have e1 : (-(n : Int) + 1 : Int) = -(l'.L.length : Int) := by
      have h := HL2.out
      rw [h, List.length_eraseIdx, if_pos (by rw [HLT.out]; exact Nat.mod_lt _ h0), HLT.out]
      omega

    rw [e1, HS.out.hw, gcs_set] at h
    exact h
  rw [← hw5]
  clear hw5
  refine HS.out.kn.step i (l' := l') (((HN2.out.fr HF4.out ?n1 ?n2).fr hF5 ?n3 ?n4)) hFF hG5 (HM4.out.fr hF5 (fun e => blk_ne_map HS.out.kn.GB (HS.out.kn.M i) e.symm)) ?hm ?hc (lf' := lf i) ?hlf HXX.out HLL.out (HS.out.mrk.fr hFF (fun D hD => HS.out.kn.no_def (hD.imp id (fun e => e.imp id (fun e => ⟨i, e⟩)))))
  case n1 =>
    rintro j rfl hj
    rcases no_put (W := W) hj (HLL.out _) with e | e
    · exact HS.out.kn.apart _ (.inl e) (.inr (.inr ⟨i, rfl⟩))
    · exact absurd (HS.out.kn.M i).lt (by omega)
  case n2 =>
    rintro j rfl hj
    rcases HXX.out _ hj with e | e
    · exact HS.out.kn.apart _ (.inr e) (.inr (.inr ⟨i, rfl⟩))
    · exact absurd (HS.out.kn.M i).lt (by omega)
  case n3 =>
    rintro j rfl hj
    rcases no_put (W := W) hj (HLL.out _) with e | e
    · exact HS.out.kn.apart _ (.inl e) (.inr (.inl rfl))
    · exact absurd HS.out.kn.GB.lt (by omega)
  case n4 =>
    rintro j rfl hj
    rcases HXX.out _ hj with e | e
    · exact HS.out.kn.apart _ (.inr e) (.inr (.inl rfl))
    · exact absurd HS.out.kn.GB.lt (by omega)
  case hm => have := HS.out.kn.mle i; omega
  case hc => exact HS.out.kn.cnt i
  case hlf =>
    intro xs
    have hlow := HS.out.kn.low i xs
    have h1 := cnt_erase _ _ _ HY.out xs
    unfold cntF at *
    rw [HL2.out]
    omega
set_option maxHeartbeats 8000000 in
set_option maxRecDepth 100000 in
theorem ks_lose2 {x0 x1 x2 x4 x7 x10 x11 x12 x13 x14 x15 x16 x17 x18 x19 x20 x21 x22 x23 x24 x25 x26 x27 x28 x29 x30 x31 x32 x33 x34 x35 x36 x37 x38 x39 x40 x41 x42 x43 x44 x45 x46 x47 x48 x49 x51 x52 x53 x54 x55 x56 x57 x58 x59 x60 x61 x62 x63 x64 x65 x66 x67 x68 x69 x70 x71 x72 x73 x74 x75 x76 x77 x78 x79 x80 x81 x82 x83 x84 x85 x86 x87 x88 x89 x90 x91 x92 x93 x94 x95 x96 x97 x98 x99 x100 x101 x102 x103 x104 x105 x106 x107 x108 x109 x110 x111 x112 x113 x114 x115 x116 x117 x118 x119 x120 x121 x122 x123 x124 x125 x126 x127 x128 x129 x130 x131 x132 x133 x134 x135 x136 x137 x138 x139 x140 x141 x142 x143 x144 x145 x146 x147 x148 x149 x150 x151 x152 x153 x154 x155 x156 x157 x158 x159 x160 x161 x162 x163 x164 x165 x166 x167 x168 x169 x170 x171 x172 x173 x174 x175 x176 x177 x178 x179 x180 x181 x182 x183 x184 x185 x186 : Value} {K : Act → World → Prop} {W : World} {base g bl gb c0 : Nat} {C : Bool → Nat} {k : Nat} {X : Nat → Prop} {l1 l2 : Ln} {f : Bool → Lit → Option Value} {m : Bool → Nat} {lf : Bool → List Int → Int} {i : Bool} {wv pk kd : Int} {b8 n z B : Nat} {Ds : List Nat} {xf : Fm}
    (h : KwIn W base g bl gb c0 C k X l1 l2 f m lf i wv pk kd b8 n z B Ds xf) (y : Fm) (hy : (sel i l1 l2).L[pk.toNat % n]? = some y) (hsp : 3 - 1 ≤ (sel i l1 l2).lost y.xs)
    (hK : ∀ (Ds' : List Nat) (y2 y10 y11 y12 y13 y51 y52 y53 y54 y55 y56 y57 y58 y59 y60 y61 y62 y63 y64 y65 y66 y67 y68 y69 y70 y71 y72 y73 y74 y75 y76 y77 y78 y79 y80 y81 y82 y83 y84 y85 y86 y87 y88 y89 y90 y91 y92 y93 y94 y95 y96 y97 y98 y99 y100 y101 y102 y103 y104 y105 y106 y107 y108 y109 y110 y111 y112 y113 y114 y115 y116 y117 y118 y119 y120 y121 y122 y123 y124 y125 y126 y127 y128 y129 y130 y132 y133 y134 y135 y136 y137 y138 y139 y140 y141 y142 y143 y144 y145 y146 y147 y148 y149 y150 y151 y152 y153 y154 y155 y156 y157 y158 y159 y160 y161 y162 y163 y164 y165 y166 y167 y168 : Value) (w' : World), KX W base g bl gb c0 C k l1 l2 B Ds' w' → K ⟨#[x0, x1, y2, .pointer (some ⟨g, 0, none⟩), x4, .pointer (some ⟨bl, 0, none⟩), .pointer (some ⟨gb, 0, none⟩), x7, .pointer (some ⟨b8, 0, none⟩), .int .i64 n, y10, y11, y12, y13, x14, x15, x16, x17, x18, x19, x20, x21, x22, x23, x24, x25, x26, x27, x28, x29, x30, x31, x32, x33, x34, x35, x36, x37, x38, x39, x40, x41, x42, x43, x44, x45, x46, x47, x48, x49, .int .u64 3, y51, y52, y53, y54, y55, y56, y57, y58, y59, y60, y61, y62, y63, y64, y65, y66, y67, y68, y69, y70, y71, y72, y73, y74, y75, y76, y77, y78, y79, y80, y81, y82, y83, y84, y85, y86, y87, y88, y89, y90, y91, y92, y93, y94, y95, y96, y97, y98, y99, y100, y101, y102, y103, y104, y105, y106, y107, y108, y109, y110, y111, y112, y113, y114, y115, y116, y117, y118, y119, y120, y121, y122, y123, y124, y125, y126, y127, y128, y129, y130, x131, y132, y133, y134, y135, y136, y137, y138, y139, y140, y141, y142, y143, y144, y145, y146, y147, y148, y149, y150, y151, y152, y153, y154, y155, y156, y157, y158, y159, y160, y161, y162, y163, y164, y165, y166, y167, y168, x169, x170, x171, x172, x173, x174, x175, x176, x177, x178, x179, x180, x181, x182, x183, x184, x185, x186], Ds'.map mk1⟩ w') :
    Code.wp Try.prog kblk (Exit.then K fun _ _ _ => False) ⟨#[x0, x1, x2, .pointer (some ⟨g, 0, none⟩), x4, .pointer (some ⟨bl, 0, none⟩), .pointer (some ⟨gb, 0, none⟩), x7, .pointer (some ⟨b8, 0, none⟩), .int .i64 n, x10, x11, x12, x13, x14, x15, x16, x17, x18, x19, x20, x21, x22, x23, x24, x25, x26, x27, x28, x29, x30, x31, x32, x33, x34, x35, x36, x37, x38, x39, x40, x41, x42, x43, x44, x45, x46, x47, x48, x49, .int .u64 3, x51, x52, x53, x54, x55, x56, x57, x58, x59, x60, x61, x62, x63, x64, x65, x66, x67, x68, x69, x70, x71, x72, x73, x74, x75, x76, x77, x78, x79, x80, x81, x82, x83, x84, x85, x86, x87, x88, x89, x90, x91, x92, x93, x94, x95, x96, x97, x98, x99, x100, x101, x102, x103, x104, x105, x106, x107, x108, x109, x110, x111, x112, x113, x114, x115, x116, x117, x118, x119, x120, x121, x122, x123, x124, x125, x126, x127, x128, x129, x130, x131, x132, x133, x134, x135, x136, x137, x138, x139, x140, x141, x142, x143, x144, x145, x146, x147, x148, x149, x150, x151, x152, x153, x154, x155, x156, x157, x158, x159, x160, x161, x162, x163, x164, x165, x166, x167, x168, x169, x170, x171, x172, x173, x174, x175, x176, x177, x178, x179, x180, x181, x182, x183, x184, x185, x186], Ds.map mk1⟩ W := by
  have HK := Lib.hid hK
  clear hK
  have a1 : W.cell? ⟨b8, 1, none⟩ = some (.int .i64 wv) := h.B8.cell 1
  have a2 : W.cell? ⟨b8, 2, none⟩ = some (.int .u64 pk) := h.B8.cell 2
  have a3 : W.cell? ⟨b8, 3, none⟩ = some (.slice xf.A xf.n xf.c) := h.B8.cell 3
  obtain ⟨hw0, hw3⟩ := h.wv
  have hn6 := h.n6
  have HS := Lib.hid h
  obtain ⟨HWV⟩ : Nonempty (Hid (wayI i = wv)) := ⟨Lib.hid h.hw.symm⟩
  have hy' := hy
  rw [← h.hn] at hy'
  have HC := Lib.hid (lose_in h.kn.nt i pk h.p0 h.p1 y (by have := h.k6; omega) hy')
  rw [HWV.out, h.hn] at HC
  have HSP := Lib.hid hsp
  clear hsp hy hy' h
  conv => arg 2; whnf
  go_wp2_with fail
  refine HC.out.mono ?_
  rintro e w2 ⟨h1, -⟩
  obtain ⟨rfl, hN2⟩ := h1 HSP.out
  have HN2 := Lib.hid hN2
  clear hN2 h1
  go_wp2_with fail
  refine HK.out _ _ _ _ _ _ _ _ _ _ _ _ _ _ _ _ _ _ _ _ _ _ _ _ _ _ _ _ _ _ _ _ _ _ _ _ _ _ _ _ _ _ _ _ _ _ _ _ _ _ _ _ _ _ _ _ _ _ _ _ _ _ _ _ _ _ _ _ _ _ _ _ _ _ _ _ _ _ _ _ _ _ _ _ _ _ _ _ _ _ _ _ _ _ _ _ _ _ _ _ _ _ _ _ _ _ _ _ _ _ _ _ _ _ _ _ _ _ _ _ _ _ _ _ ?_
  exact HS.out.kn.idle (HN2.out.toFr NoB) (fun _ x => x.elim) (HS.out.mrk.new HN2.out)
set_option maxHeartbeats 8000000 in
set_option maxRecDepth 100000 in
theorem ks_send {x0 x1 x2 x4 x7 x10 x11 x12 x13 x14 x15 x16 x17 x18 x19 x20 x21 x22 x23 x24 x25 x26 x27 x28 x29 x30 x31 x32 x33 x34 x35 x36 x37 x38 x39 x40 x41 x42 x43 x44 x45 x46 x47 x48 x49 x51 x52 x53 x54 x55 x56 x57 x58 x59 x60 x61 x62 x63 x64 x65 x66 x67 x68 x69 x70 x71 x72 x73 x74 x75 x76 x77 x78 x79 x80 x81 x82 x83 x84 x85 x86 x87 x88 x89 x90 x91 x92 x93 x94 x95 x96 x97 x98 x99 x100 x101 x102 x103 x104 x105 x106 x107 x108 x109 x110 x111 x112 x113 x114 x115 x116 x117 x118 x119 x120 x121 x122 x123 x124 x125 x126 x127 x128 x129 x130 x131 x132 x133 x134 x135 x136 x137 x138 x139 x140 x141 x142 x143 x144 x145 x146 x147 x148 x149 x150 x151 x152 x153 x154 x155 x156 x157 x158 x159 x160 x161 x162 x163 x164 x165 x166 x167 x168 x169 x170 x171 x172 x173 x174 x175 x176 x177 x178 x179 x180 x181 x182 x183 x184 x185 x186 : Value} {K : Act → World → Prop} {W : World} {base g bl gb c0 : Nat} {C : Bool → Nat} {k : Nat} {X : Nat → Prop} {l1 l2 : Ln} {f : Bool → Lit → Option Value} {m : Bool → Nat} {lf : Bool → List Int → Int} {i : Bool} {wv pk kd : Int} {b8 n z B : Nat} {Ds : List Nat} {xf : Fm}
    (h : KwIn W base g bl gb c0 C k X l1 l2 f m lf i wv pk kd b8 n z B Ds xf) (rr : Int) (hr2 : (rr == 2) = false) (hr3 : (rr == 3) = false) (hr4 : (rr == 4) = false)
    (hK : ∀ (Ds' : List Nat) (y2 y10 y11 y12 y13 y51 y52 y53 y54 y55 y56 y57 y58 y59 y60 y61 y62 y63 y64 y65 y66 y67 y68 y69 y70 y71 y72 y73 y74 y75 y76 y77 y78 y79 y80 y81 y82 y83 y84 y85 y86 y87 y88 y89 y90 y91 y92 y93 y94 y95 y96 y97 y98 y99 y100 y101 y102 y103 y104 y105 y106 y107 y108 y109 y110 y111 y112 y113 y114 y115 y116 y117 y118 y119 y120 y121 y122 y123 y124 y125 y126 y127 y128 y129 y130 y132 y133 y134 y135 y136 y137 y138 y139 y140 y141 y142 y143 y144 y145 y146 y147 y148 y149 y150 y151 y152 y153 y154 y155 y156 y157 y158 y159 y160 y161 y162 y163 y164 y165 y166 y167 y168 : Value) (w' : World), KX W base g bl gb c0 C k l1 l2 B Ds' w' → K ⟨#[x0, x1, y2, .pointer (some ⟨g, 0, none⟩), x4, .pointer (some ⟨bl, 0, none⟩), .pointer (some ⟨gb, 0, none⟩), x7, .pointer (some ⟨b8, 0, none⟩), .int .i64 n, y10, y11, y12, y13, x14, x15, x16, x17, x18, x19, x20, x21, x22, x23, x24, x25, x26, x27, x28, x29, x30, x31, x32, x33, x34, x35, x36, x37, x38, x39, x40, x41, x42, x43, x44, x45, x46, x47, x48, x49, .int .u64 rr, y51, y52, y53, y54, y55, y56, y57, y58, y59, y60, y61, y62, y63, y64, y65, y66, y67, y68, y69, y70, y71, y72, y73, y74, y75, y76, y77, y78, y79, y80, y81, y82, y83, y84, y85, y86, y87, y88, y89, y90, y91, y92, y93, y94, y95, y96, y97, y98, y99, y100, y101, y102, y103, y104, y105, y106, y107, y108, y109, y110, y111, y112, y113, y114, y115, y116, y117, y118, y119, y120, y121, y122, y123, y124, y125, y126, y127, y128, y129, y130, x131, y132, y133, y134, y135, y136, y137, y138, y139, y140, y141, y142, y143, y144, y145, y146, y147, y148, y149, y150, y151, y152, y153, y154, y155, y156, y157, y158, y159, y160, y161, y162, y163, y164, y165, y166, y167, y168, x169, x170, x171, x172, x173, x174, x175, x176, x177, x178, x179, x180, x181, x182, x183, x184, x185, x186], Ds'.map mk1⟩ w') :
    Code.wp Try.prog kblk (Exit.then K fun _ _ _ => False) ⟨#[x0, x1, x2, .pointer (some ⟨g, 0, none⟩), x4, .pointer (some ⟨bl, 0, none⟩), .pointer (some ⟨gb, 0, none⟩), x7, .pointer (some ⟨b8, 0, none⟩), .int .i64 n, x10, x11, x12, x13, x14, x15, x16, x17, x18, x19, x20, x21, x22, x23, x24, x25, x26, x27, x28, x29, x30, x31, x32, x33, x34, x35, x36, x37, x38, x39, x40, x41, x42, x43, x44, x45, x46, x47, x48, x49, .int .u64 rr, x51, x52, x53, x54, x55, x56, x57, x58, x59, x60, x61, x62, x63, x64, x65, x66, x67, x68, x69, x70, x71, x72, x73, x74, x75, x76, x77, x78, x79, x80, x81, x82, x83, x84, x85, x86, x87, x88, x89, x90, x91, x92, x93, x94, x95, x96, x97, x98, x99, x100, x101, x102, x103, x104, x105, x106, x107, x108, x109, x110, x111, x112, x113, x114, x115, x116, x117, x118, x119, x120, x121, x122, x123, x124, x125, x126, x127, x128, x129, x130, x131, x132, x133, x134, x135, x136, x137, x138, x139, x140, x141, x142, x143, x144, x145, x146, x147, x148, x149, x150, x151, x152, x153, x154, x155, x156, x157, x158, x159, x160, x161, x162, x163, x164, x165, x166, x167, x168, x169, x170, x171, x172, x173, x174, x175, x176, x177, x178, x179, x180, x181, x182, x183, x184, x185, x186], Ds.map mk1⟩ W := by
  have HK := Lib.hid hK
  clear hK
  have a1 : W.cell? ⟨b8, 1, none⟩ = some (.int .i64 wv) := h.B8.cell 1
  have a2 : W.cell? ⟨b8, 2, none⟩ = some (.int .u64 pk) := h.B8.cell 2
  have a3 : W.cell? ⟨b8, 3, none⟩ = some (.slice xf.A xf.n xf.c) := h.B8.cell 3
  obtain ⟨hw0, hw3⟩ := h.wv
  have hn6 := h.n6
  have HS := Lib.hid h
  obtain ⟨HWV⟩ : Nonempty (Hid (wayI i = wv)) := ⟨Lib.hid h.hw.symm⟩
  have HCF := Lib.hid (fun hl => send_full h.kn.nt i (.slice xf.A xf.n xf.c) hl)
  have HCI := Lib.hid (fun hl => send_in h.kn.nt i xf.A xf.n xf.c xf.xs h.q h.qb (by have := h.qn; omega) hl)
  rw [HWV.out] at HCF HCI
  have hlt := h.hn
  have HLT := Lib.hid hlt
  have hqn := h.qn
  have hxl : xf.xs.length = xf.n := by have := h.q.1; rw [u8s_len] at this; omega
  have hko := key_of (xs := xf.xs) (by omega)
  by_cases hf : 256 ≤ (sel i l1 l2).L.length
  · have HL := Lib.hid hf
    have hwas : decide ((n : Int) < 256) = false := decide_eq_false (by omega)
    clear hf h hko hxl hlt
    conv => arg 2; whnf
    go_wp2_with fail
    refine (HCF.out HL.out).mono ?_
    rintro e w2 ⟨rfl, rfl⟩
    go_wp2_with fail
    refine HK.out _ _ _ _ _ _ _ _ _ _ _ _ _ _ _ _ _ _ _ _ _ _ _ _ _ _ _ _ _ _ _ _ _ _ _ _ _ _ _ _ _ _ _ _ _ _ _ _ _ _ _ _ _ _ _ _ _ _ _ _ _ _ _ _ _ _ _ _ _ _ _ _ _ _ _ _ _ _ _ _ _ _ _ _ _ _ _ _ _ _ _ _ _ _ _ _ _ _ _ _ _ _ _ _ _ _ _ _ _ _ _ _ _ _ _ _ _ _ _ _ _ _ _ _ ?_
    exact HS.out.kn.idle (S := NoB) (Fr.refl _ _) (fun _ x => x.elim) HS.out.mrk

  · have HL : Hid ((sel i l1 l2).L.length < 256) := Lib.hid (by omega)
    clear hf h
    obtain ⟨v, hv⟩ : ∃ v, v = lf i xf.xs := ⟨_, rfl⟩
    have hv1 : 0 ≤ v := by
      have h2 := (HS.out.kn.low i xf.xs).1
      unfold cntF at h2
      omega
    have hv6 : v ≤ 600 := by have := (HS.out.kn.low i xf.xs).2; have := HS.out.k6; omega
    have hm6 : m i < 1000000 := by have := HS.out.k6; have := HS.out.kn.mle i; omega
    have HKO := Lib.hid hko
    have HV := Lib.hid hv
    clear hko hxl hlt hv
    conv => arg 2; whnf
    go_wp2_with fail
    refine (HCI.out HL.out).mono ?_
    rintro e w2 ⟨rfl, X', l', hN2, hL2, -, hF2, hX2, hl2⟩
    have b1 := hF2.cell_some a1 (fun e => HS.out.far HS.out.y8 (.inl e))
    have b3 := hF2.cell_some a3 (fun e => HS.out.far HS.out.y8 (.inl e))
    have hGB2 : Blk w2 gb 49 (gcs l1.L.length l2.L.length) := HS.out.kn.GB.fr hF2 (fun e => HS.out.kn.apart _ (.inl e) (.inr (.inl rfl)))
    have hBL2 := HS.out.kn.BL.fr hF2 (fun e => HS.out.kn.apart _ (.inl e) (.inl rfl))
    have hM2 : MapAt w2 Try.prog 9 (C i) (m i) (f i) := (HS.out.kn.M i).fr hF2 (fun e => HS.out.kn.apart _ (.inl e) (.inr (.inr ⟨i, rfl⟩)))
    have am : w2.cell? ⟨bl, wv.toNat, none⟩ = some (.map (some (C i))) := by
      rw [hBL2.cell, HS.out.hw]
      cases i <;> rfl
    have hR2 : Rd (fun b => b < base) w2 1 xf.A xf.n (u8s xf.xs) := HS.out.q.fr hF2 (fun j hj hs => by have := (HS.out.kn.nt.ours hs).1; omega)
    have HM2 := Lib.hid hM2
    have HGB2 := Lib.hid hGB2
    have HR2 := Lib.hid hR2
    have HN2 := Lib.hid hN2
    have HF2 := Lib.hid hF2
    have HL2 := Lib.hid hL2
    have HXX := Lib.hid hX2
    have HLL := Lib.hid hl2
    clear hN2 hL2 hF2 hX2 hl2 hBL2 hM2 hGB2 hR2 HCF HCI a1 a2 a3
    go_wp2_with fail
    refine wp_still_tail 9 (by kernel_rfl) (by kernel_rfl) ?_
    intro w3 hN23 hh3
    have hM3 : MapAt w3 Try.prog 9 (C i) (m i) (f i) := HM2.out.fr (hN23.toFr NoB) (fun x => x)
    have q1 := hN23.cell_ b1
    have q2 := hN23.cell_ am
    have q3 := hN23.cell_ b3
    have hcv3 := run_conv (c := xf.c) (w := w3) (hN23.rd HR2.out)
    have hlk3 := (hM3.look keyS Try.underlying30 (z := .int .i64 0) (by kernel_rfl) HKO.out).2
    rw [HS.out.kn.cnt i xf.xs HS.out.qb, ← HV.out] at hlk3
    have HM3 := Lib.hid hM3
    have HN23 : Hid (New w2 w3) := Lib.hid hN23
    clear hM3 hN23 hh3 am
    obtain ⟨st, hst⟩ : ∃ st, st = strOfNums xf.xs := ⟨_, rfl⟩
    rw [← hst] at hcv3 hlk3 HKO
    clear hst
    simp only [List.take_succ_cons, List.take_zero, List.drop_succ_cons, List.drop_zero]
    repeat still_step
    refine wpStill_nil ?_
    have hr1 : IntKind.i64.wrap (v + 1) = v + 1 := IntWalk.i64_in _ (by omega)
    refine wpList_mstore HM3.out keyS Try.underlying30 (by unfold maxLen; omega) rfl (.tmp 61) (.tmp 64) (.tmp 66) rfl rfl (.string st) (.int .i64 (v + 1)) (key xf.xs) rfl (congrArg (Value.int .i64) hr1) HKO.out ?_
    intro w4 hM4 hF34
    have hF4 : Fr (fun j => j = C i) w2 w4 := (HN23.out.toFr _).trans hF34
    clear hF34
    have hb4 : w4.cell? ⟨b8, 1, none⟩ = some (.int .i64 wv) := hF4.cell_some b1 (fun e => HS.out.far HS.out.y8 (.inr (.inr e)))
    have hGB4 : Blk w4 gb 49 (gcs l1.L.length l2.L.length) := HGB2.out.fr hF4 (fun e => blk_ne_map HS.out.kn.GB (HS.out.kn.M i) e)
    have HF4 := Lib.hid hF4
    have HM4 := Lib.hid hM4
    clear hF4 hM4
    have g4 : w4.cell? ⟨gb, wv.toNat, none⟩ = some (.int .i64 (-(n : Int))) := by
      rw [hGB4.cell, HS.out.hw, gcs_at, HS.out.hn]
    have k4 : w4.frozen? ⟨gb, wv.toNat, none⟩ = false := hGB4.frozen _
    have HGB4 := Lib.hid hGB4
    clear hGB4
    clear b1 q1 q2 q3 b3 hcv3 hlk3
    go_wp2_with fail
    refine HK.out _ _ _ _ _ _ _ _ _ _ _ _ _ _ _ _ _ _ _ _ _ _ _ _ _ _ _ _ _ _ _ _ _ _ _ _ _ _ _ _ _ _ _ _ _ _ _ _ _ _ _ _ _ _ _ _ _ _ _ _ _ _ _ _ _ _ _ _ _ _ _ _ _ _ _ _ _ _ _ _ _ _ _ _ _ _ _ _ _ _ _ _ _ _ _ _ _ _ _ _ _ _ _ _ _ _ _ _ _ _ _ _ _ _ _ _ _ _ _ _ _ _ _ _ ?_
    obtain ⟨w5, hw5⟩ : ∃ w5, w5 = (w4.setCell ⟨gb, wv.toNat, none⟩ (.int .i64 (-(n : Int) - 1))) := ⟨_, rfl⟩
    have hF5 : Fr (fun j => j = gb) w4 w5 := hw5 ▸ (Fr.refl (fun j => j = gb) w4).setCell (p := ⟨gb, wv.toNat, none⟩) (fun _ => rfl) _
    have hFF : Fr (fun j => No g l1 l2 j ∨ j = gb ∨ j = C i) W w5 := ((HF2.out.mono fun _ _ e => .inl e).trans (HF4.out.mono fun _ _ e => .inr (.inr e))).trans (hF5.mono fun _ _ e => .inr (.inl e))
    have hG5 : Blk w5 gb 49 (gcs (put1 i l1 l').L.length (put2 i l2 l').L.length) := by
      have h := HGB4.out.set wv.toNat (.int .i64 (-(n : Int) - 1))
      rw [← hw5] at h
      have e1 : (-(n : Int) - 1 : Int) = -(l'.L.length : Int) := by
        have h := congrArg List.length HL2.out
        simp only [List.length_map, List.length_append, List.length_cons, List.length_nil, HLT.out] at h
        rw [h]
        omega

      rw [e1, HS.out.hw, gcs_set] at h
      exact h
    rw [← hw5]
    clear hw5
    refine HS.out.kn.step i (l' := l') (((HN2.out.fr HF4.out ?n1 ?n2).fr hF5 ?n3 ?n4).up (Nat.le_succ _)) hFF hG5 (HM4.out.fr hF5 (fun e => blk_ne_map HS.out.kn.GB (HS.out.kn.M i) e.symm)) ?hm ?hc (lf' := fun xs => if xs = xf.xs then v + 1 else lf i xs) ?hlf HXX.out HLL.out (HS.out.mrk.fr hFF (fun D hD => HS.out.kn.no_def (hD.imp id (fun e => e.imp id (fun e => ⟨i, e⟩)))))
    case n1 =>
      rintro j rfl hj
      rcases no_put (W := W) hj (HLL.out _) with e | e
      · exact HS.out.kn.apart _ (.inl e) (.inr (.inr ⟨i, rfl⟩))
      · exact absurd (HS.out.kn.M i).lt (by omega)
    case n2 =>
      rintro j rfl hj
      rcases HXX.out _ hj with e | e
      · exact HS.out.kn.apart _ (.inr e) (.inr (.inr ⟨i, rfl⟩))
      · exact absurd (HS.out.kn.M i).lt (by omega)
    case n3 =>
      rintro j rfl hj
      rcases no_put (W := W) hj (HLL.out _) with e | e
      · exact HS.out.kn.apart _ (.inl e) (.inr (.inl rfl))
      · exact absurd HS.out.kn.GB.lt (by omega)
    case n4 =>
      rintro j rfl hj
      rcases HXX.out _ hj with e | e
      · exact HS.out.kn.apart _ (.inr e) (.inr (.inl rfl))
      · exact absurd HS.out.kn.GB.lt (by omega)
    case hm => have := HS.out.kn.mle i; omega
    case hc => exact some_put (HS.out.kn.cnt i) xf.xs HS.out.qb (v + 1)
    case hlf =>
      intro xs
      have hlow := HS.out.kn.low i xs
      have h1 := cnt_snoc _ _ _ HL2.out xs
      unfold cntF at *
      rw [h1]
      have hv := HV.out
      by_cases e : xs = xf.xs
      · subst e
        rw [if_pos rfl, if_pos rfl]
        omega
      · rw [if_neg e, if_neg e]
        omega
end Go.Proofs.Ytajoahhjgloefaa
