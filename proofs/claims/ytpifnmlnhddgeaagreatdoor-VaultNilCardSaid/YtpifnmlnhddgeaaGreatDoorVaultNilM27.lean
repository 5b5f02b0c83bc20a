/- Texts of one proof, one behind the other: KvBb, KvBc, KvT, KvBd. No condition but each one's own. -/
import Derived.Test.YtpifnmlnhddgeaaGreatDoorVaultNilM26
import Derived.Test.YtpifnmlnhddgeaaGreatDoorVaultNilM2
import Derived.Test.YtpifnmlnhddgeaaGreatDoorVaultNilM6
import Derived.Test.YtpifnmlnhddgeaaGreatDoorVaultNilM10
import Derived.Test.YtpifnmlnhddgeaaGreatDoorVaultNilM1
import Derived.Test.YtpifnmlnhddgeaaGreatDoorVaultNilM16
import Derived.Lib.SlBytesConst
namespace Go.Proofs.YtpifnmlnhddgeaaGreatDoor
set_option linter.unusedVariables false
set_option linter.unusedSimpArgs false
set_option linter.constructorNameAsVariable false
open Go.RowKit Go.Maps Go.Sort
attribute [local go_sem] Oper.semAt_some
theorem elR : ElemOf Tryz.prog 385 211 1 24 := ElemOf.mk' (z := .slice none 0 0) Tryz.underlying385 (by kernel_rfl) rfl (by decide)
theorem cbytes_any (c : Ch) (w : World) (hk : c.k.n ≤ 1000000) (hv : c.v.n ≤ 1000000) (hd : c.d = false) : Calls Tryz.prog 293 #[.agg c.cells.toArray] w fun e w' => e = .returned (.int .i64 (5 + c.k.n + c.v.n : Nat)) ∧ New w w' := by
 obtain ⟨⟨kA, kn, kc, ks⟩, ⟨vA, vn, vc, vs⟩, d⟩ := c
 dsimp only at hk hv hd
 subst hd
 unfold Ch.cells
 dsimp only
 go_enter Tryz.func293, Tryz.ntmps293
 go_wp2_with fail
 go_ret
 refine ⟨?_, New.al (New.refl _) _⟩
 have : (3 + (kn : Int) + 2 + vn) = ((5 + kn + vn : Nat) : Int) := by omega
 simp [this]
def OkW (B : Nat) (W : World) (v : Value) : Prop := ∀ k, v.ownBlock = some k → B ≤ k ∧ ∃ cs t fz, W.heap[k]? = some (.cells cs t fz) ∧ t ≠ 9 ∧ t ≠ 5
theorem OkW.own {B b s n : Nat} {e : TypeId} {W : World} {v : Value} {xs : List Value} (h : W.ownsRow b e s v n xs) (hb : B ≤ b) (he : e ≠ 9 ∧ e ≠ 5) : OkW B W v := fun k hk => by
 obtain ⟨cs, fz, hx⟩ := own_isT h hk
 exact ⟨Nat.le_trans hb (own_lt h k hk).1, cs, e, fz, hx, he⟩
theorem OkW.nil {B : Nat} {W : World} : OkW B W (.slice none 0 0) := fun k hk => by cases hk
def BS (b3 b4 : Nat) (v l : Value) (j : Nat) : Prop := (j = b3 ∨ j = b4) ∨ v.ownBlock = some j ∨ l.ownBlock = some j
theorem bs_ends {B b3 b4 : Nat} {W W' : World} {v l : Value} (hv : OkW B W v) (hl : OkW B W l) (h3 : b3 < B) (h4 : b4 < B) (hF : Fr (BS b3 b4 v l) W W') : Kept B W W' ∧ Kk B (fun j => j = b3 ∨ j = b4) W W' := by
 have key_l19 : ∀ k o, B ≤ k → BS b3 b4 v l k → W.heap[k]? = some o → o.isCells = true ∧ ¬ IsT 9 W k := fun k o hk hs ho => by
  have h : ∃ cs t fz, W.heap[k]? = some (.cells cs t fz) ∧ t ≠ 9 ∧ t ≠ 5 := by
   rcases hs with (hs | hs) | hs | hs
   · omega
   · omega
   · exact (hv k hs).2
   · exact (hl k hs).2
  obtain ⟨cs, t, fz, hx, ht⟩ := h
  rw [hx] at ho
  injection ho with ho
  refine ⟨by rw [← ho]; rfl, fun ⟨cs', fz', hy⟩ => ?_⟩
  rw [hx] at hy
  injection hy with hy
  injection hy with _ hy
  exact ht.1 hy
 refine ⟨Kept.fr hF (fun k o hk hs ho => (key_l19 k o hk hs ho).1), hF.mono fun j hj hs => ?_⟩
 rcases hs with hs | hs
 · exact .inl hs
 · have ho : W.heap[j]? = some W.heap[j] := Array.getElem?_eq_getElem hj
   have hB : B ≤ j := by
    rcases hs with hs | hs
    · exact (hv j hs).1
    · exact (hl j hs).1
   exact .inr ⟨hB, (key_l19 j _ hB (.inr hs) ho).2⟩
def xch (A : Option Addr) (c : Nat) (x : List Int × Fm) : Ch := ⟨⟨A, x.1.length, c, x.1⟩, x.2, false⟩
def ChS (y : Ch) : Prop := y.d = false ∧ y.k.n ≤ 16 ∧ y.v.n ≤ 16384
def kvs (s : List (List Int × Fm)) : CT := s.map fun x => (x.1, x.2.xs)
def BtS (b3 b4 B : Nat) (s : List (List Int × Fm)) (v : Value) (r : Int) (W : World) : Prop :=
 (s = [] ∧ v = .slice none 0 0 ∧ r = 0) ∨ ∃ (g n c : Nat) (C : List Sl) (l : Sl) (lo : Nat) (P : List Ch), v = .slice (some ⟨g, 0, none⟩) n c ∧ Nst 211 124 (fun j => b4 < j) B lo W (some ⟨g, 0, none⟩) n c C l ∧
  cl P = kvs s ∧ spl szc P = some (C.map Sl.L, l.L) ∧ r = 8190 - ((l.L.map szc).sum : Nat) ∧ (∀ y ∈ P, ChS y) ∧ l.L.length ≤ 600 ∧ (l.L.map szc).sum ≤ l.L.length * 20000 ∧ n ≤ s.length
def BtI (b3 b4 : Nat) (w2 : World) (s : List (List Int × Fm)) (W : World) : Prop := Fr (fun j => b3 ≤ j) w2 W ∧ ∃ (v : Value) (r : Int), Blk W b3 385 #[v] ∧ Blk W b4 3 #[.int .i64 r] ∧ BtS b3 b4 w2.heap.size s v r W
theorem BtS.new {b3 b4 B : Nat} {s : List (List Int × Fm)} {v : Value} {r : Int} {W W' : World} (h : BtS b3 b4 B s v r W) (hN : New W W') : BtS b3 b4 B s v r W' := by
 rcases h with h | ⟨g, n, c, C, l, lo, P, h1, h2, h3⟩
 · exact .inl h
 · exact .inr ⟨g, n, c, C, l, lo, P, h1, h2.new hN, h3⟩
theorem BtI.new {b3 b4 : Nat} {w2 : World} {s : List (List Int × Fm)} {W W' : World} (h : BtI b3 b4 w2 s W) (hN : New W W') : BtI b3 b4 w2 s W' := by
 obtain ⟨h1, v, r, h2, h3, h4⟩ := h
 exact ⟨h1.trans (hN.toFr _), v, r, hN.blk h2, hN.blk h3, h4.new hN⟩
theorem BtI.puts {b3 b4 B : Nat} {w2 : World} {s : List (List Int × Fm)} {W W' : World} (h : BtI b3 b4 w2 s W) (hz : b3 ≤ B) (hp : Puts B W W') : BtI b3 b4 w2 s W' := by
 obtain ⟨h1, v, r, h2, h3, h4⟩ := h
 refine ⟨h1.trans (hp.fr (fun j hj => Nat.le_trans hz hj)), v, r, hp.blk h2, hp.blk h3, ?_⟩
 rcases h4 with h | ⟨g, n, c, C, l, lo, P, h1, h2, h3⟩
 · exact .inl h
 · exact .inr ⟨g, n, c, C, l, lo, P, h1, h2.puts hp, h3⟩
theorem wpIn_hideC {F : Fence} {n k : Nat} {P : Program} {A B C D : Code} {Q : Exit → Act → World → Prop} {a : Act} {w : World} (h : ∀ c, Hid (c = C) → (Code.block k (A.seq (B.seq (c.seq D)))).wpIn F n P Q a w) : (Code.block k (A.seq (B.seq (C.seq D)))).wpIn F n P Q a w := h C (Lib.hid rfl)
theorem wpIn_sw {F : Fence} {n : Nat} {P : Program} {c : Code} {Q : Exit → Act → World → Prop} {a : Act} {w : World} (R : Act → World → Prop) (h1 : ∀ a' w', R a' w' → Q .normal a' w')
    (h2 : ∀ K' : Act → World → Prop, (∀ a' w', R a' w' → K' a' w') → c.wpIn F n P (Exit.then K' fun _ _ _ => False) a w) : c.wpIn F n P Q a w :=
 wpIn_mono (h2 (fun a w => Q .normal a w) h1) fun e a' w' hq => by
  cases e <;> first | exact hq | exact hq.elim
section
variable {tr te : TypeId} {q : Nat → Prop} {base lo g n c : Nat} {W : World} {C : List Sl} {l : Sl}
theorem slc_len (C : List Sl) : (C.flatMap Sl.cells).length = C.length := by
 induction C with
 | nil => rfl
 | cons x C ih => simp [Sl.cells, ih]
theorem Nst.lastCell (h : Nst tr te q base lo W (some ⟨g, 0, none⟩) n c C l) {k : Nat} (hk : n = k + 1) : W.cell? ⟨g, k, none⟩ = some (.slice l.A l.n l.c) := by
 have hn := h.nn
 have e : k = C.length := by omega
 have := h.out.cells (g := g) rfl k (.slice l.A l.n l.c) (by
  rw [List.flatMap_append, List.getElem?_append_right (by rw [slc_len]; omega), slc_len, e]
  simp [Sl.cells])
 rwa [add_own] at this
theorem Nst.lastFrozen (h : Nst tr te q base lo W (some ⟨g, 0, none⟩) n c C l) (k : Nat) : W.frozen? ⟨g, k, none⟩ = false := by
 rcases h.out.2 with ⟨h0, -⟩ | ⟨g', cap, cur, hv, hb, hh, h1, h2, h3, h4⟩
 · injection h0 with h0; cases h0
 · injection hv with hA hn hc
   injection hA with hA
   injection hA with hA
   subst hA
   exact Blk.frozen hh k
end
theorem OkW.lt {B : Nat} {W : World} {v : Value} (h : OkW B W v) {k : Nat} (hk : v.ownBlock = some k) : k < W.heap.size := by
 obtain ⟨-, cs, t, fz, hx, -⟩ := h k hk
 exact (Array.getElem?_eq_some_iff.1 hx).1
theorem OkW.notB {B : Nat} {W : World} {v : Value} (h : OkW B W v) {k : Nat} (hk : v.ownBlock = some k) : ¬ IsT 5 W k := by
 obtain ⟨-, cs, t, fz, hx, -, ht⟩ := h k hk
 rintro ⟨cs', fz', hy⟩
 rw [hx] at hy
 injection hy with hy
 injection hy with _ hy
 exact ht hy
structure Bef (b3 b4 bc B : Nat) (v0 l0 : Value) (W2 W5 : World) (gO nO cO : Nat) (C : List Sl) (l : Sl) (lo : Nat) (r : Int) (x y z : Value) : Prop where
 fr : Fr (BS b3 b4 v0 l0) W2 W5
 nst : Nst 211 124 (fun j => b4 < j) B lo W5 (some ⟨gO, 0, none⟩) nO cO C l
 hO : ∀ k, (Value.slice (some ⟨gO, 0, none⟩) nO cO).ownBlock = some k → v0.ownBlock = some k ∨ bc < k
 hl : ∀ k, (Value.slice l.A l.n l.c).ownBlock = some k → l0.ownBlock = some k ∨ bc < k
 B3 : Blk W5 b3 385 #[.slice (some ⟨gO, 0, none⟩) nO cO]
 B4 : Blk W5 b4 3 #[.int .i64 r]
 Bc : Blk W5 bc 124 #[x, y, z]
structure BefR (b3 b4 bc B : Nat) (W W2 W5 : World) (pre : List (List Int × Fm)) (Y : Ch) (gO nO cO : Nat) (C : List Sl) (l : Sl) (lo : Nat) (r : Int) (x y z : Value) : Prop where
 bef : ∃ v0 l0, OkW B W v0 ∧ OkW B W l0 ∧ Bef b3 b4 bc B v0 l0 W2 W5 gO nO cO C l lo r x y z
 pl : ∃ P : List Ch, cl P = kvs pre ∧ (∀ y ∈ P, ChS y) ∧ spl szc (P ++ [Y]) = some (C.map Sl.L, l.L ++ [Y])
 rr : r = 8190 - ((l.L.map szc).sum : Nat)
 l6 : l.L.length < 600
 ls : (l.L.map szc).sum ≤ l.L.length * 20000
 nn : nO ≤ pre.length + 1
theorem bef_new {b3 b4 bc B lo g5 n5 c5 : Nat} {v0 l0 : Value} {W2 w5 : World} {C : List Sl} {x y z u3 u4 : Value} (hF : Fr (BS b3 b4 v0 l0) W2 w5)
    (hn : Nst 211 124 (fun j => b4 < j) B lo w5 (some ⟨g5, 0, none⟩) n5 c5 C ⟨none, 0, 0, []⟩)
    (hO : ∀ k, (Value.slice (some ⟨g5, 0, none⟩) n5 c5).ownBlock = some k → v0.ownBlock = some k ∨ bc < k) (h3 : Blk w5 b3 385 #[u3]) (h4 : Blk w5 b4 3 #[u4]) (hc : Blk w5 bc 124 #[x, y, z]) (hle : b3 ≤ b4) :
    Bef b3 b4 bc B v0 l0 W2 ((w5.setCell ⟨b3, 0, none⟩ (.slice (some ⟨g5, 0, none⟩) n5 c5)).setCell ⟨b4, 0, none⟩ (.int .i64 8190)) g5 n5 c5 C ⟨none, 0, 0, []⟩ lo 8190 x y z := by
 have h34 : b3 ≠ b4 := Blk.ne_ h3 h4 (by decide)
 have h3c : bc ≠ b3 := (Blk.ne_ h3 hc (by decide)).symm
 have h4c : bc ≠ b4 := (Blk.ne_ h4 hc (by decide)).symm
 have hFs : Fr (fun j => j = b3 ∨ j = b4) w5 ((w5.setCell ⟨b3, 0, none⟩ (.slice (some ⟨g5, 0, none⟩) n5 c5)).setCell ⟨b4, 0, none⟩ (.int .i64 8190)) :=
  ((Fr.refl (fun j => j = b3 ∨ j = b4) w5).setCell (p := ⟨b3, 0, none⟩) (fun _ => .inl rfl) _).setCell (p := ⟨b4, 0, none⟩) (fun _ => .inr rfl) _
 refine ⟨hF.trans (hFs.mono fun j _ hj => .inl hj), hn.fr hFs (fun j hj hq => by rcases hj with rfl | rfl <;> omega), hO, fun k hk => (by cases hk), ?_, ?_, hc.fr hFs (by rintro (e | e) <;> omega)⟩
 · exact Blk.far (by simpa using h3.set 0 (.slice (some ⟨g5, 0, none⟩) n5 c5)) (p := ⟨b4, 0, none⟩) h34 _
 · have := (Blk.far h4 (p := ⟨b3, 0, none⟩) h34.symm (.slice (some ⟨g5, 0, none⟩) n5 c5)).set 0 (.int .i64 8190)
   simpa using this
theorem kvs_snoc (s : List (List Int × Fm)) (x : List Int × Fm) : kvs (s ++ [x]) = kvs s ++ [(x.1, x.2.xs)] := by simp [kvs]
theorem bt_in {b3 b4 bc : Nat} {w2 W W2 W5 : World} {pre : List (List Int × Fm)} {x : List Int × Fm} {cc gO nO cO : Nat} {C : List Sl} {l : Sl} {lo : Nat} {r : Int} {Y : Ch} {vx vy vz : Value}
    (h3 : b3 < w2.heap.size) (h4 : b4 < w2.heap.size) (hW : w2.heap.size ≤ W.heap.size) (hN2 : New W W2) (hbc : W2.heap.size ≤ bc) (hlt : W.heap.size < W2.heap.size)
    (hR : BefR b3 b4 bc w2.heap.size W W2 W5 pre Y gO nO cO C l lo r vx vy vz) (hG : GoodK w2.heap.size x W) (hk : Rd (fun k => k = W.heap.size) W2 1 (some ⟨W.heap.size, 0, none⟩) x.1.length (u8s x.1)) :
    (xch (some ⟨W.heap.size, 0, none⟩) cc x).In (fun j => b4 < j ∧ gO ≠ j ∧ (Value.slice l.A l.n l.c).ownBlock ≠ some j) W5 := by
 obtain ⟨v0, l0, hv, hl, hb⟩ := hR.bef
 have key_l19 : ∀ k, (k = W.heap.size ∨ (x.2.val.ownBlock = some k)) → ¬ BS b3 b4 v0 l0 k ∧ (b4 < k ∧ gO ≠ k ∧ (Value.slice l.A l.n l.c).ownBlock ≠ some k) := by
  intro k hk
  have hkz : k ≤ W.heap.size := by
   rcases hk with rfl | hk
   · exact Nat.le_refl _
   · exact Nat.le_of_lt (own_lt hG.1 k hk).2
  have hkb : w2.heap.size ≤ k := by
   rcases hk with rfl | hk
   · exact hW
   · exact (own_lt hG.1 k hk).1
  have hno : ∀ v, OkW w2.heap.size W v → v.ownBlock ≠ some k := fun v hv e => by
   rcases hk with rfl | hk
   · have := hv.lt e
     omega
   · exact hv.notB e (own_isT hG.1 hk)
  refine ⟨?_, by omega, fun e => ?_, fun e => ?_⟩
  · rintro ((e | e) | e | e)
    · omega
    · omega
    · exact hno _ hv e
    · exact hno _ hl e
  · rcases hb.hO k (by rw [← e]; rfl) with h | h
    · exact hno _ hv h
    · omega
  · rcases hb.hl k e with h | h
    · exact hno _ hl h
    · omega
 refine ⟨⟨((hk.imp (q := fun k => k = W.heap.size ∨ (x.2.val.ownBlock = some k)) (fun k h => .inl h)).fr hb.fr (fun k h => (key_l19 k h).1)).imp (fun k h => (key_l19 k h).2), hG.2.2.2.1⟩,
  ⟨(((hN2.rd (Rd.own hG.1 rfl)).imp (q := fun k => k = W.heap.size ∨ (x.2.val.ownBlock = some k)) (fun k h => .inr h)).fr hb.fr (fun k h => (key_l19 k h).1)).imp (fun k h => (key_l19 k h).2), hG.2.1⟩⟩
theorem bt_end {b3 b4 bc : Nat} {w2 W W2 W5 wA wC : World} {pre : List (List Int × Fm)} {x : List Int × Fm} {Y : Ch} {gO nO cO : Nat} {C : List Sl} {l : Sl} {lo : Nat} {r r' : Int} {vx vy vz : Value} {A' : Option Addr} {c' kn : Nat}
    (hF : Fr (fun j => b3 ≤ j) w2 W) (hb34 : b3 ≤ b4) (h3 : b3 < w2.heap.size) (h4 : b4 < w2.heap.size) (hN2 : New W W2) (hbc : W2.heap.size ≤ bc) (hR : BefR b3 b4 bc w2.heap.size W W2 W5 pre Y gO nO cO C l lo r vx vy vz) (hn : nO = kn + 1)
    (hA : wA.ownsRow lo 124 3 (.slice A' (l.n + 1) c') (l.n + 1) (l.L.flatMap Ch.cells ++ Y.cells)) (hFA : Fr (fun k => (Value.slice l.A l.n l.c).ownBlock = some k) W5 wA)
    (hkA : ∀ k, (Value.slice A' (l.n + 1) c').ownBlock = some k → (Value.slice l.A l.n l.c).ownBlock = some k ∨ W5.heap.size ≤ k)
    (hY : Y.In (fun j => b4 < j ∧ gO ≠ j ∧ (Value.slice l.A l.n l.c).ownBlock ≠ some j) W5) (hY1 : Y.k.xs = x.1) (hY2 : Y.v.xs = x.2.xs) (hYs : ChS Y) (hz : szc Y ≤ 20000)
    (hN : New (wA.setCell ⟨gO, kn, none⟩ (.slice A' (l.n + 1) c')) wC) (hr : r' = r - (szc Y : Nat)) :
    Kept w2.heap.size W (wC.setCell ⟨b4, 0, none⟩ (.int .i64 r')) ∧ Kk w2.heap.size (fun j => j = b3 ∨ j = b4) W (wC.setCell ⟨b4, 0, none⟩ (.int .i64 r')) ∧ BtI b3 b4 w2 (pre ++ [x]) (wC.setCell ⟨b4, 0, none⟩ (.int .i64 r')) := by
 obtain ⟨v0, l0, hv, hl, hb⟩ := hR.bef
 obtain ⟨P, hP1, hP2, hP3⟩ := hR.pl
 have hnst := hb.nst.push hA hFA hkA hY (i := kn) (by omega)
 have hFs : Fr (fun k => k = gO) wA (wA.setCell ⟨gO, kn, none⟩ (.slice A' (l.n + 1) c')) := (Fr.refl (fun k => k = gO) wA).setCell (p := ⟨gO, kn, none⟩) (fun _ => rfl) _
 have hF4 : Fr (fun k => k = b4) wC (wC.setCell ⟨b4, 0, none⟩ (.int .i64 r')) := (Fr.refl (fun k => k = b4) wC).setCell (p := ⟨b4, 0, none⟩) (fun _ => rfl) _
 have hq3 : ¬ (Value.slice l.A l.n l.c).ownBlock = some b3 := own_ne hb.nst.last hb.B3 (by decide)
 have hq4 : ¬ (Value.slice l.A l.n l.c).ownBlock = some b4 := own_ne hb.nst.last hb.B4 (by decide)
 have hg3 : b3 ≠ gO := fun e => own_ne hb.nst.out hb.B3 (by decide) (by rw [e]; rfl)
 have hg4 : b4 ≠ gO := fun e => own_ne hb.nst.out hb.B4 (by decide) (by rw [e]; rfl)
 have h34 : b3 ≠ b4 := Blk.ne_ hb.B3 hb.B4 (by decide)
 have hB3 : Blk (wC.setCell ⟨b4, 0, none⟩ (.int .i64 r')) b3 385 #[.slice (some ⟨gO, 0, none⟩) nO cO] := (hN.blk ((hb.B3.fr hFA hq3).fr hFs hg3)).far (p := ⟨b4, 0, none⟩) h34 _
 have hB4 : Blk (wC.setCell ⟨b4, 0, none⟩ (.int .i64 r')) b4 3 #[.int .i64 r'] := by
  have := (hN.blk ((hb.B4.fr hFA hq4).fr hFs hg4)).set 0 (.int .i64 r')
  simpa using this
 have hz5 : W.heap.size ≤ W5.heap.size := Nat.le_trans hN2.size hb.fr.size
 have hFW : Fr (BS b3 b4 v0 l0) W (wC.setCell ⟨b4, 0, none⟩ (.int .i64 r')) := by
  refine ((hN2.toFr _).trans hb.fr).trans' (T := fun k => (Value.slice l.A l.n l.c).ownBlock = some k ∨ k = gO ∨ k = b4) ?_ ?_
  · exact (((hFA.mono fun _ _ h => .inl h).trans (hFs.mono fun _ _ h => .inr (.inl h))).trans (hN.toFr _)).trans (hF4.mono fun _ _ h => .inr (.inr h))
  · rintro k hk (h | h | h)
    · rcases hb.hl k h with h | h
      · exact .inr (.inr h)
      · have := hN2.size; omega
    · rcases hb.hO k (by rw [h]; rfl) with h | h
      · exact .inr (.inl h)
      · have := hN2.size; omega
    · exact .inl (.inr h)
 obtain ⟨hK1, hK2⟩ := bs_ends hv hl h3 h4 hFW
 refine ⟨hK1, hK2, hF.trans (hFW.mono fun j _ hj => ?_), _, _, hB3, hB4, .inr ⟨gO, nO, cO, C, _, lo, P ++ [Y], rfl, (hnst.new hN).fr hF4 (fun j hj hq => by omega), ?_, hP3, ?_, ?_, ?_, ?_, ?_⟩⟩
 · have hz := hF.size
   rcases hj with (hj | hj) | hj | hj
   · omega
   · omega
   · have := (hv j hj).1; omega
   · have := (hl j hj).1; omega
 · rw [kvs_snoc, ← hP1, ← hY1, ← hY2]
   simp [cl]
 · have := hR.rr
   simp
   omega
 · intro y hy
   rcases List.mem_append.1 hy with hy | hy
   · exact hP2 y hy
   · rw [List.mem_singleton.1 hy]
     exact hYs
 · have := hR.l6
   simp
   omega
 · have := hR.ls
   simp
   omega
 · have := hR.nn
   simp
   omega
def BoxT (b3 bc gO kn : Nat) (v row x y z : Value) (w : World) : Prop := w.cell? ⟨b3, 0, none⟩ = some v ∧ w.cell? ⟨gO, kn, none⟩ = some row ∧ w.cell? ⟨bc, 0, none⟩ = some x ∧ w.cell? ⟨bc, 1, none⟩ = some y ∧ w.cell? ⟨bc, 2, none⟩ = some z
def BoxU (b4 bc : Nat) (r x y z : Value) (w : World) : Prop := w.cell? ⟨b4, 0, none⟩ = some r ∧ w.cell? ⟨bc, 0, none⟩ = some x ∧ w.cell? ⟨bc, 1, none⟩ = some y ∧ w.cell? ⟨bc, 2, none⟩ = some z
theorem Rd.keep {p : Nat → Prop} {W W' : World} {size n : Nat} {A : Option Addr} {xs : List Value} (hr : Rd p W size A n xs) (hz : W.heap.size ≤ W'.heap.size) (hk : ∀ (k : Nat) (o : Obj), W.heap[k]? = some o → o.isCells = true → W'.heap[k]? = some o) : Rd p W' size A n xs :=
 ⟨hr.1, fun hn => by
  obtain ⟨ad, e, hp, hb, hc⟩ := hr.2 hn
  refine ⟨ad, e, hp, Nat.lt_of_lt_of_le hb hz, fun j u hu => ?_⟩
  have h := hc j u hu
  have hlt := World.block_lt_of_cell? W _ h
  refine (World.cell?_of_block (w := W) ?_).trans h
  have ho : W.heap[(ad.add j).block]? = some W.heap[(ad.add j).block] := Array.getElem?_eq_getElem hlt
  refine (hk _ _ ho ?_).trans ho.symm
  generalize W.heap[(ad.add j).block] = o at ho
  unfold World.cell? at h
  rw [ho] at h
  cases o <;> first | rfl | simp at h⟩
theorem Bts.shut {B : Nat} {W W' : World} {A : Option Addr} {n : Nat} {R : List Sl} (h : Bts W A n R) (hS : Shut B W W') : Bts W' A n R :=
 ⟨rd_szs (h.rd.keep hS.below.size hS.cells), h.len, fun x hx => ⟨rd_szs ((h.el x hx).rd.keep hS.below.size hS.cells), (h.el x hx).len, fun c hc => Ch.In.szs ⟨⟨((h.el x hx).el c hc).k.rd.keep hS.below.size hS.cells, ((h.el x hx).el c hc).k.byt⟩, ⟨((h.el x hx).el c hc).v.rd.keep hS.below.size hS.cells, ((h.el x hx).el c hc).v.byt⟩⟩⟩⟩
theorem BtsN.shut {B D D' : Nat} {W W' : World} {A : Option Addr} {n : Nat} {R : List Sl} (h : BtsN D D' W A n R) (hS : Shut B W W') : BtsN D D' W' A n R :=
 ⟨h.rd.keep hS.below.size hS.cells, h.len, fun x hx => ⟨(h.el x hx).1, (h.el x hx).2.1.keep hS.below.size hS.cells, fun c hc => ⟨⟨((h.el x hx).2.2 c hc).k.rd.keep hS.below.size hS.cells, ((h.el x hx).2.2 c hc).k.byt⟩, ⟨((h.el x hx).2.2 c hc).v.rd.keep hS.below.size hS.cells, ((h.el x hx).2.2 c hc).v.byt⟩⟩⟩⟩
theorem conv_back' (xs : List Int) (hb : Byt xs) (w : World) : ∃ (c : Nat) (w' : World), (convert 9 122 (.string (strOfNums xs))).run Tryz.prog w = .ok (.slice (some ⟨w.heap.size, 0, none⟩) xs.length c) w' ∧ New w w' ∧ Rd (fun k => k = w.heap.size) w' 1 (some ⟨w.heap.size, 0, none⟩) xs.length (u8s xs) ∧ w.heap.size < w'.heap.size := by
 have h := Go.run_bytes_of_string (P := Tryz.prog) w 9 122 5 (strOfNums xs) Tryz.underlying9 Tryz.underlying122 Tryz.underlying5
 rw [strOfNums_size] at h
 obtain ⟨c, w', h1, h2, h3⟩ := conv_back xs hb w
 refine ⟨c, w', h1, h2, h3, ?_⟩
 rw [h] at h1
 injection h1 with _ e
 rw [← e, World.size_alloc]
 exact Nat.lt_succ_self _
set_option maxHeartbeats 4000000 in
set_option maxRecDepth 100000 in
theorem batches_any {X : Nat → Prop} {w : World} {base g b m : Nat} {E : Tab} (h : TbIn X w base g b m E) (hm : m ≤ 1000000) (hE : E.length ≤ 1000000) :
    Calls Tryz.prog 237 #[.pointer (some ⟨g, 0, none⟩)] w fun e w' => (∃ (A : Option Addr) (n c : Nat) (R : List Sl) (P : List Ch), e = .returned (.slice A n c) ∧ (Bts w' A n R ∧ ∃ D, BtsN w.heap.size D w' A n R ∧ D ≤ w'.heap.size) ∧ cl P = sct_l19 (cont E) ∧ R.map Sl.L = rws (spl szc P) ∧ (∀ y ∈ P, ChS y)) ∧ New w w' := by
 have H := Lib.hid h
 have hX : ∀ j, X j → j < w.heap.size := fun j hj => by
  obtain ⟨_, cs, fz, hx⟩ := h.xs j hj
  exact (Array.getElem?_eq_some_iff.1 hx).1
 have HX := Lib.hid hX
 clear h hX
 refine (callsIn_wide (n := 3)).1 ?_
 refine callsIn_of_wp_marks Tryz.func237 rfl trivial ?_ rfl
 refine wpIn_wide.2 ?_
 simp only [Tryz.ntmps237, List.size_toArray, List.length_cons, List.length_nil, Nat.reduceAdd, Nat.reduceSub, Array.replicate_succ, Array.replicate_zero, List.push_toArray, List.append_toArray, List.nil_append, List.cons_append]
 go_wp2_with fail
 obtain ⟨w1, hw1⟩ : ∃ w1 : World, w1 = ((w.alloc (.cells #[.slice none 0 0] 385)).alloc (.cells #[.int .i64 0] 3)) := ⟨_, rfl⟩
 obtain ⟨b3, hb3⟩ : ∃ b3, b3 = w.heap.size := ⟨_, rfl⟩
 obtain ⟨b4, hb4⟩ : ∃ b4, b4 = w.heap.size + 1 := ⟨_, rfl⟩
 have HN1 : Hid (New w w1) := Lib.hid (by rw [hw1]; exact New.al (New.al (New.refl _) _) _)
 have HB3 : Hid (Blk w1 b3 385 #[.slice none 0 0]) := Lib.hid (by rw [hw1, hb3]; exact (Blk.new _ _ _).alloc _)
 have HB4 : Hid (Blk w1 b4 3 #[.int .i64 0]) := Lib.hid (by rw [hw1, hb4]; exact Blk.new' _ _ _ (by simp))
 have HZ : Hid (b3 = w.heap.size ∧ b4 = w.heap.size + 1) := Lib.hid ⟨hb3, hb4⟩
 rw [← hw1, ← hb4, ← hb3]
 clear hw1 hb3 hb4
 refine (all_any (some ⟨g, 0, none⟩) w1).mono ?_
 rintro e w2 ⟨rfl, hw2⟩
 have HN2 : Hid (New w1 w2) := Lib.hid (by rw [hw2]; exact New.al (New.refl _) _)
 have hg := H.out.blk.lt
 have hb := H.out.blt
 have h1z := HB4.out.lt
 have hz3 := HZ.out
 have HS := Lib.hid (all1_live (H.out.new (HN1.out.tr HN2.out)) hm hE (fun j => j = b3 ∨ j = b4) w1.heap.size (by rw [hw2]; exact Blk.new w1 _ _) (fun j hj => by
  have := HN2.out.size
  rcases hj with rfl | rfl
  · exact ⟨by omega, by omega, by omega, fun hx => by have := HX.out _ hx; omega, by omega⟩
  · exact ⟨by omega, by omega, by omega, fun hx => by have := HX.out _ hx; omega, by omega⟩))
 have HB32 : Hid (Blk w2 b3 385 #[.slice none 0 0]) := Lib.hid (HN2.out.blk HB3.out)
 have HB42 : Hid (Blk w2 b4 3 #[.int .i64 0]) := Lib.hid (HN2.out.blk HB4.out)
 have HZB : Hid (b3 < w2.heap.size ∧ b4 < w2.heap.size) := Lib.hid ⟨HB32.out.lt, HB42.out.lt⟩
 have HLL : Hid (w2.heap.size ≤ w2.heap.size) := Lib.hid (Nat.le_refl _)
 clear hw2 hg hb h1z hz3
 go_wp2_with fail
 refine wp_rangeR rfl (enters_of Tryz.func136 (by kernel_rfl) rfl) (fun x : List Int × Fm => #[.string (strOfNums x.1), x.2.val]) (fun _ => rfl) HS.out (fun x W W' hg hp => hg.puts hp) (fun h k => h.tr k) (fun W W' hp => Kk.puts hp)
  (BtI b3 b4 w2) (fun s A B h hN => h.new hN) (fun s A B h hp => h.puts (Nat.le_of_lt HZB.out.1) hp) ⟨Fr.refl _ _, _, _, HB32.out, HB42.out, .inl ⟨rfl, rfl, rfl⟩⟩ ?a1 ?assign ?body ?done
 case assign =>
  intro l x W K hK
  gi_wp2
  exact hK
 case body =>
  rintro lp pre x W hpl ⟨hF, v, r, hB3, hB4, hS⟩ hG hx
  obtain ⟨cc, W2, hcv, hN2, hR2, hlt2⟩ := conv_back' x.1 hG.2.2.2.1 W
  have HN2 := Lib.hid hN2
  have HR2 := Lib.hid hR2
  have hltW : W.heap.size < W2.heap.size := hlt2
  have HLTW := Lib.hid hltW
  have HG := Lib.hid hG
  have HF := Lib.hid hF
  have HBW3 := Lib.hid hB3
  have HBW4 := Lib.hid hB4
  have hk16 : x.1.length ≤ 16 := hG.2.2.2.2
  have hv16 : x.2.n ≤ 16384 := hG.2.2.1
  have hxv : x.2.xs.length = x.2.n := by have := hG.1.1; rw [u8s_len] at this; omega
  obtain ⟨xk, xA, xn, xc, xs⟩ := x
  simp only [Fm.val]
  dsimp only at hcv hk16 hv16 hxv HR2 HG
  have HH := Lib.hid hS
  generalize hkl : xk.length = kl at hcv HR2 hk16
  have HXV := Lib.hid hxv
  obtain ⟨aV, nV, cV, hVe, hnV⟩ : ∃ (a : Option Addr) (n c : Nat), v = .slice a n c ∧ n ≤ pre.length := by
   rcases hS with ⟨-, h, -⟩ | ⟨gO, nO, cO, C, l, lo, P, h, -, -, -, -, -, -, -, hn⟩
   · exact ⟨_, _, _, h, Nat.zero_le _⟩
   · exact ⟨_, _, _, h, hn⟩
  have HH := Lib.hid hS
  have HVE := Lib.hid hVe
  have HKL : Hid (xk.length = kl) := Lib.hid hkl
  subst hVe
  have d3 : ∀ o, (W2.alloc o).cell? ⟨b3, 0, none⟩ = some (.slice aV nV cV) := fun o => (New.al (New.refl W2) o).cell_ ((HN2.out.blk hB3).cell 0)
  clear hN2 hR2 hG hF hB3 hB4 hS hxv
  generalize hst : strOfNums xk = st at hcv ⊢
  clear hkl hst
  refine wpIn_hideC (fun cC hC => ?_)
  gi_wp2
  obtain ⟨k8, hk8⟩ : ∃ k8 : Int, k8 = (nV : Int) - 1 := ⟨_, rfl⟩
  obtain ⟨bc, hbc⟩ : ∃ bc, bc = W2.heap.size := ⟨_, rfl⟩
  obtain ⟨W3, hW3⟩ : ∃ W3, W3 = W2.alloc (.cells #[.slice (some ⟨W.heap.size, 0, none⟩) kl cc, .slice xA xn xc, .bool false] 124) := ⟨_, rfl⟩
  rw [← hk8, ← hbc, ← hW3]
  have HN3 : Hid (New W W3) := Lib.hid (HN2.out.tr (by rw [hW3]; exact New.al (New.refl _) _))
  have HN23 : Hid (New W2 W3) := Lib.hid (by rw [hW3]; exact New.al (New.refl _) _)
  have HBC : Hid (Blk W3 bc 124 #[.slice (some ⟨W.heap.size, 0, none⟩) kl cc, .slice xA xn xc, .bool false]) := Lib.hid (by rw [hW3, hbc]; exact Blk.new _ _ _)
  have HBCZ : Hid (W2.heap.size ≤ bc) := Lib.hid (Nat.le_of_eq hbc.symm)
  have HC3 : Hid (Blk W3 b3 385 #[.slice aV nV cV]) := Lib.hid (HN3.out.blk HBW3.out)
  have HC4 : Hid (Blk W3 b4 3 #[.int .i64 r]) := Lib.hid (HN3.out.blk HBW4.out)
  have HK8 := Lib.hid hk8
  have H43 : Hid (b4 ≠ b3) := Lib.hid (by have := HZ.out; omega)
  clear hW3 hbc d3 hcv hk8
  refine wpIn_sw (fun a W5 => ∃ (kn : Nat) (u20 u21 u22 u23 u24 u25 u26 u27 u28 u29 u30 u31 u32 u33 u34 u35 u36 u37 u38 u39 u40 : Value) (gO nO cO : Nat) (C : List Sl) (l : Sl) (lo : Nat) (r : Int), a = { tmps := #[.pointer (some ⟨g, 0, none⟩), undef, .slice none 0 0, .pointer (some ⟨b3, 0, none⟩), .pointer (some ⟨b4, 0, none⟩), .string st, .slice xA xn xc, .pointer (some ⟨bc, 0, none⟩), .int .i64 (kn : Nat), .pointer (some ⟨g, 0, none⟩), .func (Fn.func 136) #[] #[.pointer (some ⟨w1.heap.size, 0, none⟩)], .string st, .slice xA xn xc, .string st, .slice (some ⟨W.heap.size, 0, none⟩) kl cc, .slice xA xn xc, .agg #[.slice (some ⟨W.heap.size, 0, none⟩) kl cc, .slice xA xn xc, .bool false], .slice aV nV cV, .int .i64 (nV : Nat), .int .i64 k8, u20, u21, u22, u23, u24, u25, u26, u27, u28, u29, u30, u31, u32, u33, u34, u35, u36, u37, u38, u39, u40, undef, undef, undef, undef, undef, undef, undef, undef, undef, undef, undef, undef, undef, undef, undef], defers := [] } ∧ nO = kn + 1 ∧
   Hid (BefR b3 b4 bc w2.heap.size W W2 W5 pre ⟨⟨some ⟨W.heap.size, 0, none⟩, kl, cc, xk⟩, ⟨xA, xn, xc, xs⟩, false⟩ gO nO cO C l lo r (.slice (some ⟨W.heap.size, 0, none⟩) kl cc) (.slice xA xn xc) (.bool false))) ?tail ?head
  case head =>
   intro K' hK'
   have HK' := Lib.hid hK'
   clear hK'
   have hC' := hC.out
   subst hC'
   clear hC
   rcases HH.out with ⟨hp0, hv0, hr0⟩ | ⟨gO, nO, cO, C, l, lo, P, hv0, hNs, hP, hsp, hr, hCs, hl6, hsm, hns⟩
   · injection hv0 with e1 e2 e3
     subst e1 e2 e3 hr0
     have hk8' : k8 = -1 := by rw [HK8.out]; rfl
     subst hk8'
     gi_wp2
     refine wpIn_region_below_round lp rfl (by kernel_rfl) (by kernel_rfl) rfl ?_
     repeat (refine wpQuietIn_step (fun _ _ _ _ => trivial) (fun K hK => ?_); go_simp; first | (refine hK _ ?_; clear hK K) | (apply Exists.intro; refine ⟨fun _ => ?_, hK _ ?_⟩; (first | exact cA _ _); clear hK K))
     refine wpQuietIn_nil ?_
     intro _ hw'
     obtain ⟨⟨dq, osq⟩, hw''⟩ := hw'
     obtain ⟨W4, hW4⟩ : ∃ W4, W4 = grow (redrawn W3 dq) osq := ⟨_, rfl⟩
     have HN4 : Hid (New W3 W4) := Lib.hid (by rw [hW4]; exact below_regrown W3 dq osq)
     rw [hw'', ← hW4]
     clear hw'' hW4
     have HD3 := Lib.hid (HN4.out.blk HC3.out)
     have HD4 := Lib.hid (HN4.out.blk HC4.out)
     have HDc := Lib.hid (HN4.out.blk HBC.out)
     have HZ4 : Hid (w2.heap.size ≤ W4.heap.size) := Lib.hid (Nat.le_trans HF.out.size (Nat.le_trans HN3.out.size HN4.out.size))
     have HZ5 : Hid (bc < W4.heap.size) := Lib.hid HDc.out.lt
     have HN24 : Hid (New W2 W4) := Lib.hid (HN23.out.tr HN4.out)
     obtain ⟨vN, hvN⟩ : ∃ v : Value, v = .slice none 0 0 := ⟨_, rfl⟩
     have HVN := Lib.hid hvN
     clear hvN
     have d3 : W4.cell? ⟨b3, 0, none⟩ = some vN := by rw [HVN.out]; exact HD3.out.cell 0
     have f3 : W4.frozen? ⟨b3, 0, none⟩ = false := HD3.out.frozen 0
     have d4 : W4.cell? ⟨b4, 0, none⟩ = some (.int .i64 0) := HD4.out.cell 0
     gi_wp2_with (gi_at_builtin; refine wpListIn_app elR _ rfl (.tmp 36) (.tmp 37) rfl w2.heap.size vN 0 [] rfl (New.own (New.al (New.refl _) _) (by rw [HVN.out]; exact World.ownsRow_nil _ _ _ _)) (some ⟨W4.heap.size, 0, none⟩) 1 1 [.slice none 0 0] rfl (Rd.new (p := fun _ => True) W4 #[.slice none 0 0] 211 1 1 rfl trivial) (by intro u hu; obtain rfl := List.mem_singleton.1 hu; rfl) (by unfold maxLen; omega) (by omega) (by have := HZ4.out; simp; omega) ?_; intro A5 c5 w5 hO5 hF5 hA5; have hF5 : Fr (fun k => vN.ownBlock = some k) W4 w5 := ((New.al (New.refl W4) _).toFr _).trans hF5; have hB3 := (HD3.out).fr hF5 (fun e => by rw [HVN.out] at e; cases e); have hB4 := (HD4.out).fr hF5 (fun e => by rw [HVN.out] at e; cases e); have hBc := (HDc.out).fr hF5 (fun e => by rw [HVN.out] at e; cases e); have HF5 := Lib.hid hF5; have HO5 := Lib.hid hO5; have HA5 := Lib.hid hA5; have HE3 := Lib.hid hB3; have HE4 := Lib.hid hB4; have HEc := Lib.hid hBc; have g3 : w5.frozen? ⟨b3, 0, none⟩ = false := hB3.frozen 0; have e3 : w5.cell? ⟨b3, 0, none⟩ = some (.slice none 0 0) := hB3.cell 0; have g4 : ∀ u, (w5.setCell ⟨b3, 0, none⟩ u).frozen? ⟨b4, 0, none⟩ = false := fun u => (Blk.far hB4 (p := ⟨b3, 0, none⟩) H43.out u).frozen 0; have e4 : ∀ u, (w5.setCell ⟨b3, 0, none⟩ u).cell? ⟨b4, 0, none⟩ = some (.int .i64 0) := fun u => (Blk.far hB4 (p := ⟨b3, 0, none⟩) H43.out u).cell 0; clear hO5 hF5 hA5 hB3 hB4 hBc d3 f3 d4)
     obtain ⟨g5, d5, hsl, -, -⟩ := own_form HO5.out (by omega)
     have hAe : A5 = some ⟨g5, 0, none⟩ := by injection hsl
     subst hAe
     refine HK'.out _ _ ⟨0, _, _, _, _, _, _, _, _, _, _, _, _, _, _, _, _, _, _, _, _, _, g5, 1, c5, [], ⟨none, 0, 0, []⟩, w5.heap.size, 8190, rfl, rfl, Lib.hid ?_⟩
     have hnst : Nst 211 124 (fun j => b4 < j) w2.heap.size w5.heap.size w5 (some ⟨g5, 0, none⟩) 1 c5 [] ⟨none, 0, 0, []⟩ := Nst.first (by decide) (fun j hj => by have := HZB.out; omega) (by simpa [Sl.cells] using HO5.out) (World.ownsRow_nil _ _ _ _) (Nat.le_trans HZ4.out HF5.out.size) (Nat.le_refl _) (New.refl w5) rfl (fun y hy => by cases hy)
     refine ⟨⟨.slice none 0 0, .slice none 0 0, OkW.nil, OkW.nil, bef_new ((HN24.out.toFr _).trans (HF5.out.mono fun k _ e => by rw [HVN.out] at e; cases e)) hnst (fun k hk => (HA5.out k hk).elim (fun e => by rw [HVN.out] at e; cases e) (fun e => .inr (by have := HZ5.out; simp at e; omega))) HE3.out HE4.out HEc.out (by have := HZ.out; omega)⟩, ⟨[], by rw [hp0]; rfl, (fun y hy => by cases hy), by simp [spl, spS]⟩, by simp, by simp, by simp, by simp⟩
   · injection hv0 with e1 e2 e3
     have hnn := hNs.nn
     obtain ⟨kn, hkn⟩ : ∃ kn, nO = kn + 1 := ⟨C.length, hnn⟩
     subst e1 e2 e3 hkn
     have hk8' : k8 = (kn : Int) := by rw [HK8.out]; omega
     subst hk8'
     have HNS := Lib.hid hNs
     have HP := Lib.hid hP
     have HCS := Lib.hid hCs
     have HSP := Lib.hid hsp
     have HSM := Lib.hid hsm
     have HR := Lib.hid hr
     have HNN : Hid (kn + 1 ≤ pre.length) := Lib.hid hns
     have hll : l.L.length = l.n := hNs.ll
     have hszY : szc (⟨⟨some ⟨W.heap.size, 0, none⟩, kl, cc, xk⟩, ⟨xA, xn, xc, xs⟩, false⟩ : Ch) = 5 + kl + xn := by unfold szc; dsimp only; rw [HKL.out, HXV.out]
     have kc0 := cell_regrown (show W3.cell? ⟨bc, 0, none⟩ = some _ from HBC.out.cell 0)
     have kc1 := cell_regrown (show W3.cell? ⟨bc, 1, none⟩ = some _ from HBC.out.cell 1)
     have kc2 := cell_regrown (show W3.cell? ⟨bc, 2, none⟩ = some _ from HBC.out.cell 2)
     have k3 := cell_regrown (show W3.cell? ⟨b3, 0, none⟩ = some (.slice (some ⟨gO, 0, none⟩) (kn + 1) cV) from HC3.out.cell 0)
     have k4 := cell_regrown (show W3.cell? ⟨b4, 0, none⟩ = some (.int .i64 r) from HC4.out.cell 0)
     have kR := cell_regrown (show W3.cell? ⟨gO, kn, none⟩ = some (.slice l.A l.n l.c) from (HNS.out.new HN3.out).lastCell rfl)
     have cA := callsIn_regrown (n := 2 - 1) (w := W3) (v := .int .i64 (5 + kl + xn : Nat)) (f := 293) (args := #[.agg #[.slice (some ⟨W.heap.size, 0, none⟩) kl cc, .slice xA xn xc, .bool false]]) (fun W' hN' => cbytes_any (⟨⟨some ⟨W.heap.size, 0, none⟩, kl, cc, xk⟩, ⟨xA, xn, xc, xs⟩, false⟩ : Ch) W' (by dsimp only; omega) (by dsimp only; omega) rfl)
     have hk0 : (0 : Int) ≤ (kn : Int) := by omega
     have hk1 : (kn : Int) < ((kn : Int) + 1) := by omega
     have hd1 : decide ((kn : Int) < 0) = false := decide_eq_false (by omega)
     clear hNs hP hsp hCs hns hnn
     by_cases hroom : r < ((5 + kl + xn : Nat) : Int)
     · have hd2 : decide (r < 5 + (kl : Int) + (xn : Int)) = true := decide_eq_true (by omega)
       have HLT : Hid (¬ (l.L.length < 600 ∧ (l.L.map szc).sum + szc (⟨⟨some ⟨W.heap.size, 0, none⟩, kl, cc, xk⟩, ⟨xA, xn, xc, xs⟩, false⟩ : Ch) ≤ 8190)) := Lib.hid (by rw [hszY]; omega)
       clear hr hsm hl6 hroom hll hszY
       as_aux_lemma =>
        gi_wp2
        refine wpIn_region_below_round lp rfl (by kernel_rfl) (by kernel_rfl) rfl ?_
        repeat (refine wpQuietIn_step (fun _ _ _ _ => trivial) (fun K hK => ?_); go_simp; first | (refine hK _ ?_; clear hK K) | (apply Exists.intro; refine ⟨fun _ => ?_, hK _ ?_⟩; (first | exact cA _ _); clear hK K))
        refine wpQuietIn_nil ?_
        intro _ hw'
        obtain ⟨⟨dq, osq⟩, hw''⟩ := hw'
        obtain ⟨W4, hW4⟩ : ∃ W4, W4 = grow (redrawn W3 dq) osq := ⟨_, rfl⟩
        have HN4 : Hid (New W3 W4) := Lib.hid (by rw [hW4]; exact below_regrown W3 dq osq)
        rw [hw'', ← hW4]
        clear hw'' hW4
        have HD3 := Lib.hid (HN4.out.blk HC3.out)
        have HD4 := Lib.hid (HN4.out.blk HC4.out)
        have HDc := Lib.hid (HN4.out.blk HBC.out)
        have HZ4 : Hid (w2.heap.size ≤ W4.heap.size) := Lib.hid (Nat.le_trans HF.out.size (Nat.le_trans HN3.out.size HN4.out.size))
        have HZ5 : Hid (bc < W4.heap.size) := Lib.hid HDc.out.lt
        have HN24 : Hid (New W2 W4) := Lib.hid (HN23.out.tr HN4.out)
        have HS4 : Hid (Nst 211 124 (fun j => b4 < j) w2.heap.size lo W4 (some ⟨gO, 0, none⟩) (kn + 1) cV C l) := Lib.hid (HNS.out.new (HN3.out.tr HN4.out))
        have d3 : W4.cell? ⟨b3, 0, none⟩ = some (Value.slice (some ⟨gO, 0, none⟩) (kn + 1) cV) := HD3.out.cell 0
        have f3 : W4.frozen? ⟨b3, 0, none⟩ = false := HD3.out.frozen 0
        have d4 : W4.cell? ⟨b4, 0, none⟩ = some (.int .i64 r) := HD4.out.cell 0
        gi_wp2_with (gi_at_builtin; refine wpListIn_app elR _ rfl (.tmp 36) (.tmp 37) rfl w2.heap.size (Value.slice (some ⟨gO, 0, none⟩) (kn + 1) cV) (kn + 1) ((C ++ [l]).flatMap Sl.cells) rfl (New.own (New.al (New.refl _) _) HS4.out.out) (some ⟨W4.heap.size, 0, none⟩) 1 1 [.slice none 0 0] rfl (Rd.new (p := fun _ => True) W4 #[.slice none 0 0] 211 1 1 rfl trivial) (by intro u hu; obtain rfl := List.mem_singleton.1 hu; rfl) (by unfold maxLen; omega) (by omega) (by have := HZ4.out; simp; omega) ?_; intro A5 c5 w5 hO5 hF5 hA5; have hF5 : Fr (fun k => (Value.slice (some ⟨gO, 0, none⟩) (kn + 1) cV).ownBlock = some k) W4 w5 := ((New.al (New.refl W4) _).toFr _).trans hF5; have hB3 := (HD3.out).fr hF5 (fun e => own_ne HS4.out.out HD3.out (by decide) e); have hB4 := (HD4.out).fr hF5 (fun e => own_ne HS4.out.out HD4.out (by decide) e); have hBc := (HDc.out).fr hF5 (fun e => own_ne HS4.out.out HDc.out (by decide) e); have HF5 := Lib.hid hF5; have HO5 := Lib.hid hO5; have HA5 := Lib.hid hA5; have HE3 := Lib.hid hB3; have HE4 := Lib.hid hB4; have HEc := Lib.hid hBc; have g3 : w5.frozen? ⟨b3, 0, none⟩ = false := hB3.frozen 0; have e3 : w5.cell? ⟨b3, 0, none⟩ = some (Value.slice (some ⟨gO, 0, none⟩) (kn + 1) cV) := hB3.cell 0; have g4 : ∀ u, (w5.setCell ⟨b3, 0, none⟩ u).frozen? ⟨b4, 0, none⟩ = false := fun u => (Blk.far hB4 (p := ⟨b3, 0, none⟩) H43.out u).frozen 0; have e4 : ∀ u, (w5.setCell ⟨b3, 0, none⟩ u).cell? ⟨b4, 0, none⟩ = some (.int .i64 r) := fun u => (Blk.far hB4 (p := ⟨b3, 0, none⟩) H43.out u).cell 0; clear hO5 hF5 hA5 hB3 hB4 hBc d3 f3 d4)
        obtain ⟨g5, d5, hsl, -, -⟩ := own_form HO5.out (by omega)
        have hAe : A5 = some ⟨g5, 0, none⟩ := by injection hsl
        subst hAe
        refine HK'.out _ _ ⟨kn + 1, _, _, _, _, _, _, _, _, _, _, _, _, _, _, _, _, _, _, _, _, _, g5, kn + 1 + 1, c5, C ++ [l], ⟨none, 0, 0, []⟩, w5.heap.size, 8190, rfl, rfl, Lib.hid ?_⟩
        have hnst : Nst 211 124 (fun j => b4 < j) w2.heap.size w5.heap.size w5 (some ⟨g5, 0, none⟩) (kn + 1 + 1) c5 (C ++ [l]) ⟨none, 0, 0, []⟩ := HS4.out.open_ HF5.out.size (Nat.le_refl _) (by simpa [Sl.cells] using HO5.out) HF5.out (fun k hk => (HA5.out k hk).imp id (fun h => by simp at h; omega)) (World.ownsRow_nil _ _ _ _) rfl (fun y hy => by cases hy)
        refine ⟨⟨(Value.slice (some ⟨gO, 0, none⟩) (kn + 1) cV), .slice l.A l.n l.c, OkW.own HNS.out.out (Nat.le_refl _) (by decide), OkW.own HNS.out.last HNS.out.blo (by decide), bef_new ((HN24.out.toFr _).trans (HF5.out.mono fun k _ e => .inr (.inl e))) hnst (fun k hk => (HA5.out k hk).imp id (fun e => by have := HZ5.out; simp at e; omega)) HE3.out HE4.out HEc.out (by have := HZ.out; omega)⟩, ⟨P, HP.out, HCS.out, ?_⟩, by simp, by simp, by simp, by have := HNN.out; omega⟩
        rw [spl_snoc, HSP.out]
        unfold spS
        dsimp only
        rw [if_neg (fun h => by have := HLT.out; omega)]
        simp
     · have hd2 : decide (r < 5 + (kl : Int) + (xn : Int)) = false := decide_eq_false (by omega)
       by_cases hrow : 600 ≤ l.n
       · have hd3 : decide ((600 : Int) ≤ (l.n : Int)) = true := decide_eq_true (by omega)
         have HLT : Hid (¬ (l.L.length < 600 ∧ (l.L.map szc).sum + szc (⟨⟨some ⟨W.heap.size, 0, none⟩, kl, cc, xk⟩, ⟨xA, xn, xc, xs⟩, false⟩ : Ch) ≤ 8190)) := Lib.hid (by omega)
         clear hr hsm hl6 hroom hll hszY hrow
         as_aux_lemma =>
          gi_wp2
          refine wpIn_region_below_round lp rfl (by kernel_rfl) (by kernel_rfl) rfl ?_
          repeat (refine wpQuietIn_step (fun _ _ _ _ => trivial) (fun K hK => ?_); go_simp; first | (refine hK _ ?_; clear hK K) | (apply Exists.intro; refine ⟨fun _ => ?_, hK _ ?_⟩; (first | exact cA _ _); clear hK K))
          refine wpQuietIn_nil ?_
          intro _ hw'
          obtain ⟨⟨dq, osq⟩, hw''⟩ := hw'
          obtain ⟨W4, hW4⟩ : ∃ W4, W4 = grow (redrawn W3 dq) osq := ⟨_, rfl⟩
          have HN4 : Hid (New W3 W4) := Lib.hid (by rw [hW4]; exact below_regrown W3 dq osq)
          rw [hw'', ← hW4]
          clear hw'' hW4
          have HD3 := Lib.hid (HN4.out.blk HC3.out)
          have HD4 := Lib.hid (HN4.out.blk HC4.out)
          have HDc := Lib.hid (HN4.out.blk HBC.out)
          have HZ4 : Hid (w2.heap.size ≤ W4.heap.size) := Lib.hid (Nat.le_trans HF.out.size (Nat.le_trans HN3.out.size HN4.out.size))
          have HZ5 : Hid (bc < W4.heap.size) := Lib.hid HDc.out.lt
          have HN24 : Hid (New W2 W4) := Lib.hid (HN23.out.tr HN4.out)
          have HS4 : Hid (Nst 211 124 (fun j => b4 < j) w2.heap.size lo W4 (some ⟨gO, 0, none⟩) (kn + 1) cV C l) := Lib.hid (HNS.out.new (HN3.out.tr HN4.out))
          have d3 : W4.cell? ⟨b3, 0, none⟩ = some (Value.slice (some ⟨gO, 0, none⟩) (kn + 1) cV) := HD3.out.cell 0
          have f3 : W4.frozen? ⟨b3, 0, none⟩ = false := HD3.out.frozen 0
          have d4 : W4.cell? ⟨b4, 0, none⟩ = some (.int .i64 r) := HD4.out.cell 0
          gi_wp2_with (gi_at_builtin; refine wpListIn_app elR _ rfl (.tmp 36) (.tmp 37) rfl w2.heap.size (Value.slice (some ⟨gO, 0, none⟩) (kn + 1) cV) (kn + 1) ((C ++ [l]).flatMap Sl.cells) rfl (New.own (New.al (New.refl _) _) HS4.out.out) (some ⟨W4.heap.size, 0, none⟩) 1 1 [.slice none 0 0] rfl (Rd.new (p := fun _ => True) W4 #[.slice none 0 0] 211 1 1 rfl trivial) (by intro u hu; obtain rfl := List.mem_singleton.1 hu; rfl) (by unfold maxLen; omega) (by omega) (by have := HZ4.out; simp; omega) ?_; intro A5 c5 w5 hO5 hF5 hA5; have hF5 : Fr (fun k => (Value.slice (some ⟨gO, 0, none⟩) (kn + 1) cV).ownBlock = some k) W4 w5 := ((New.al (New.refl W4) _).toFr _).trans hF5; have hB3 := (HD3.out).fr hF5 (fun e => own_ne HS4.out.out HD3.out (by decide) e); have hB4 := (HD4.out).fr hF5 (fun e => own_ne HS4.out.out HD4.out (by decide) e); have hBc := (HDc.out).fr hF5 (fun e => own_ne HS4.out.out HDc.out (by decide) e); have HF5 := Lib.hid hF5; have HO5 := Lib.hid hO5; have HA5 := Lib.hid hA5; have HE3 := Lib.hid hB3; have HE4 := Lib.hid hB4; have HEc := Lib.hid hBc; have g3 : w5.frozen? ⟨b3, 0, none⟩ = false := hB3.frozen 0; have e3 : w5.cell? ⟨b3, 0, none⟩ = some (Value.slice (some ⟨gO, 0, none⟩) (kn + 1) cV) := hB3.cell 0; have g4 : ∀ u, (w5.setCell ⟨b3, 0, none⟩ u).frozen? ⟨b4, 0, none⟩ = false := fun u => (Blk.far hB4 (p := ⟨b3, 0, none⟩) H43.out u).frozen 0; have e4 : ∀ u, (w5.setCell ⟨b3, 0, none⟩ u).cell? ⟨b4, 0, none⟩ = some (.int .i64 r) := fun u => (Blk.far hB4 (p := ⟨b3, 0, none⟩) H43.out u).cell 0; clear hO5 hF5 hA5 hB3 hB4 hBc d3 f3 d4)
          obtain ⟨g5, d5, hsl, -, -⟩ := own_form HO5.out (by omega)
          have hAe : A5 = some ⟨g5, 0, none⟩ := by injection hsl
          subst hAe
          refine HK'.out _ _ ⟨kn + 1, _, _, _, _, _, _, _, _, _, _, _, _, _, _, _, _, _, _, _, _, _, g5, kn + 1 + 1, c5, C ++ [l], ⟨none, 0, 0, []⟩, w5.heap.size, 8190, rfl, rfl, Lib.hid ?_⟩
          have hnst : Nst 211 124 (fun j => b4 < j) w2.heap.size w5.heap.size w5 (some ⟨g5, 0, none⟩) (kn + 1 + 1) c5 (C ++ [l]) ⟨none, 0, 0, []⟩ := HS4.out.open_ HF5.out.size (Nat.le_refl _) (by simpa [Sl.cells] using HO5.out) HF5.out (fun k hk => (HA5.out k hk).imp id (fun h => by simp at h; omega)) (World.ownsRow_nil _ _ _ _) rfl (fun y hy => by cases hy)
          refine ⟨⟨(Value.slice (some ⟨gO, 0, none⟩) (kn + 1) cV), .slice l.A l.n l.c, OkW.own HNS.out.out (Nat.le_refl _) (by decide), OkW.own HNS.out.last HNS.out.blo (by decide), bef_new ((HN24.out.toFr _).trans (HF5.out.mono fun k _ e => .inr (.inl e))) hnst (fun k hk => (HA5.out k hk).imp id (fun e => by have := HZ5.out; simp at e; omega)) HE3.out HE4.out HEc.out (by have := HZ.out; omega)⟩, ⟨P, HP.out, HCS.out, ?_⟩, by simp, by simp, by simp, by have := HNN.out; omega⟩
          rw [spl_snoc, HSP.out]
          unfold spS
          dsimp only
          rw [if_neg (fun h => by have := HLT.out; omega)]
          simp
       · have hd3 : decide ((600 : Int) ≤ (l.n : Int)) = false := decide_eq_false (by omega)
         have HLT : Hid (l.L.length < 600 ∧ (l.L.map szc).sum + szc (⟨⟨some ⟨W.heap.size, 0, none⟩, kl, cc, xk⟩, ⟨xA, xn, xc, xs⟩, false⟩ : Ch) ≤ 8190) := Lib.hid (by rw [hszY]; omega)
         clear hr hsm hl6 hroom hll hszY hrow
         as_aux_lemma =>
          gi_wp2
          refine wpIn_region_below_round lp rfl (by kernel_rfl) (by kernel_rfl) rfl ?_
          repeat (refine wpQuietIn_step (fun _ _ _ _ => trivial) (fun K hK => ?_); go_simp; first | (refine hK _ ?_; clear hK K) | (apply Exists.intro; refine ⟨fun _ => ?_, hK _ ?_⟩; (first | exact cA _ _); clear hK K))
          refine wpQuietIn_nil ?_
          intro _ hw'
          obtain ⟨⟨dq, osq⟩, hw''⟩ := hw'
          obtain ⟨W4, hW4⟩ : ∃ W4, W4 = grow (redrawn W3 dq) osq := ⟨_, rfl⟩
          have HN4 : Hid (New W3 W4) := Lib.hid (by rw [hW4]; exact below_regrown W3 dq osq)
          rw [hw'', ← hW4]
          clear hw'' hW4
          have HD3 := Lib.hid (HN4.out.blk HC3.out)
          have HD4 := Lib.hid (HN4.out.blk HC4.out)
          have HDc := Lib.hid (HN4.out.blk HBC.out)
          have HZ4 : Hid (w2.heap.size ≤ W4.heap.size) := Lib.hid (Nat.le_trans HF.out.size (Nat.le_trans HN3.out.size HN4.out.size))
          have HZ5 : Hid (bc < W4.heap.size) := Lib.hid HDc.out.lt
          have HN24 : Hid (New W2 W4) := Lib.hid (HN23.out.tr HN4.out)
          have HS4 : Hid (Nst 211 124 (fun j => b4 < j) w2.heap.size lo W4 (some ⟨gO, 0, none⟩) (kn + 1) cV C l) := Lib.hid (HNS.out.new (HN3.out.tr HN4.out))
          gi_wp2
          refine HK'.out _ _ ⟨kn, _, _, _, _, _, _, _, _, _, _, _, _, _, _, _, _, _, _, _, _, _, gO, kn + 1, cV, C, l, lo, r, rfl, rfl, Lib.hid ?_⟩
          refine ⟨⟨(Value.slice (some ⟨gO, 0, none⟩) (kn + 1) cV), .slice l.A l.n l.c, OkW.own HNS.out.out (Nat.le_refl _) (by decide), OkW.own HNS.out.last HNS.out.blo (by decide), ⟨HN24.out.toFr _, HS4.out, fun k h => .inl h, fun k h => .inl h, HD3.out, HD4.out, HDc.out⟩⟩, ⟨P, HP.out, HCS.out, ?_⟩, HR.out, HLT.out.1, HSM.out, by have := HNN.out; omega⟩
          rw [spl_snoc, HSP.out]
          unfold spS
          dsimp only
          rw [if_pos HLT.out]
  case tail =>
   rintro a W5 ⟨kn, u20, u21, u22, u23, u24, u25, u26, u27, u28, u29, u30, u31, u32, u33, u34, u35, u36, u37, u38, u39, u40, gO, nO, cO, C, l, lo, r5, rfl, rfl, HR⟩
   clear HK8 HH hC
   have hbt := bt_in (cc := cc) (x := (xk, ⟨xA, xn, xc, xs⟩)) HZB.out.1 HZB.out.2 HF.out.size HN2.out HBCZ.out HLTW.out HR.out HG.out (by rw [HKL.out]; exact HR2.out)
   unfold xch at hbt
   dsimp only at hbt
   rw [HKL.out] at hbt
   have HBT := Lib.hid hbt
   have hls := HR.out.ls
   have hl6 := HR.out.l6
   have hrr := HR.out.rr
   have hBF : ∃ v0 l0, Bef b3 b4 bc w2.heap.size v0 l0 W2 W5 gO (kn + 1) cO C l lo r5 (.slice (some ⟨W.heap.size, 0, none⟩) kl cc) (.slice xA xn xc) (.bool false) := by
    obtain ⟨v0, l0, -, -, hb⟩ := HR.out.bef
    exact ⟨v0, l0, hb⟩
   obtain ⟨v0, l0, hb⟩ := hBF
   have HB := Lib.hid hb
   have hln : l.L.length = l.n := hb.nst.ll
   have hS0 : (BoxT b3 bc gO kn (.slice (some ⟨gO, 0, none⟩) (kn + 1) cO) (.slice l.A l.n l.c) (.slice (some ⟨W.heap.size, 0, none⟩) kl cc) (.slice xA xn xc) (.bool false)) W5.drew := ⟨hb.B3.cell 0, hb.nst.lastCell rfl, hb.Bc.cell 0, hb.Bc.cell 1, hb.Bc.cell 2⟩
   have HS5 : Hid ((BoxT b3 bc gO kn (.slice (some ⟨gO, 0, none⟩) (kn + 1) cO) (.slice l.A l.n l.c) (.slice (some ⟨W.heap.size, 0, none⟩) kl cc) (.slice xA xn xc) (.bool false)) W5) := Lib.hid hS0
   have HZ5 : Hid (lo ≤ W5.heap.size) := Lib.hid hb.nst.los
   have hk0 : (0 : Int) ≤ (kn : Int) := by omega
   have hk1 : (kn : Int) < ((kn : Int) + 1) := by omega
   have hl60 : l.n < 600 := by omega
   clear hbt hb hls hrr hl6
   gi_wp2
   refine wpIn_region_mix lp (BoxT b3 bc gO kn (.slice (some ⟨gO, 0, none⟩) (kn + 1) cO) (.slice l.A l.n l.c) (.slice (some ⟨W.heap.size, 0, none⟩) kl cc) (.slice xA xn xc) (.bool false)) 10 [(true, 0), (true, 1), (true, 2), (true, 3), (true, 4), (true, 5), (true, 6), (false, 7), (false, 8), (true, 9), (false, 10)] (by kernel_rfl) (by kernel_rfl) hS0 (fun hne => ?_)
   have q3 : ∀ p : HW (BoxT b3 bc gO kn (.slice (some ⟨gO, 0, none⟩) (kn + 1) cO) (.slice l.A l.n l.c) (.slice (some ⟨W.heap.size, 0, none⟩) kl cc) (.slice xA xn xc) (.bool false)), p.w.cell? ⟨b3, 0, none⟩ = some (.slice (some ⟨gO, 0, none⟩) (kn + 1) cO) := fun p => p.h.1
   have qr : ∀ p : HW (BoxT b3 bc gO kn (.slice (some ⟨gO, 0, none⟩) (kn + 1) cO) (.slice l.A l.n l.c) (.slice (some ⟨W.heap.size, 0, none⟩) kl cc) (.slice xA xn xc) (.bool false)), p.w.cell? ⟨gO, kn, none⟩ = some (.slice l.A l.n l.c) := fun p => p.h.2.1
   have qa : ∀ p : HW (BoxT b3 bc gO kn (.slice (some ⟨gO, 0, none⟩) (kn + 1) cO) (.slice l.A l.n l.c) (.slice (some ⟨W.heap.size, 0, none⟩) kl cc) (.slice xA xn xc) (.bool false)), p.w.cell? ⟨bc, 0, none⟩ = some _ := fun p => p.h.2.2.1
   have qb : ∀ p : HW (BoxT b3 bc gO kn (.slice (some ⟨gO, 0, none⟩) (kn + 1) cO) (.slice l.A l.n l.c) (.slice (some ⟨W.heap.size, 0, none⟩) kl cc) (.slice xA xn xc) (.bool false)), p.w.cell? ⟨bc, 1, none⟩ = some _ := fun p => p.h.2.2.2.1
   have qc : ∀ p : HW (BoxT b3 bc gO kn (.slice (some ⟨gO, 0, none⟩) (kn + 1) cO) (.slice l.A l.n l.c) (.slice (some ⟨W.heap.size, 0, none⟩) kl cc) (.slice xA xn xc) (.bool false)), p.w.cell? ⟨bc, 2, none⟩ = some _ := fun p => p.h.2.2.2.2
   iterate 7 (refine mix_take (o := ⟨_, _, _, _, _, _⟩) rfl (fun K hK => ?_); go_simp; refine hK _ ?_; clear hK K)
   refine mix_act (o := ⟨_, _, _, _, _, _⟩) rfl (fun K hK => ?_) (.inl rfl)
   refine step_bs1 elC (by decide) (by rfl) (.tmp 47) rfl #[.slice (some ⟨W.heap.size, 0, none⟩) kl cc, .slice xA xn xc, .bool false] (by rfl) rfl ?_
   intro gb w6 hB6 hN6 hl6
   simp only [Act.put, List.setIfInBounds_toArray, List.set_cons_zero, List.set_cons_succ]
   have HN6 : Hid (New W5 w6) := Lib.hid (New.tr (New.dr (New.refl _)) hN6)
   have HB6 := Lib.hid hB6
   have hfrS : ∀ {S : Nat → Prop} {wa wb : World}, (BoxT b3 bc gO kn (.slice (some ⟨gO, 0, none⟩) (kn + 1) cO) (.slice l.A l.n l.c) (.slice (some ⟨W.heap.size, 0, none⟩) kl cc) (.slice xA xn xc) (.bool false)) wa → Fr S wa wb → ¬ S b3 → ¬ S gO → ¬ S bc → (BoxT b3 bc gO kn (.slice (some ⟨gO, 0, none⟩) (kn + 1) cO) (.slice l.A l.n l.c) (.slice (some ⟨W.heap.size, 0, none⟩) kl cc) (.slice xA xn xc) (.bool false)) wb := fun h hF h1 h2 h3 => ⟨hF.cell_some h.1 h1, hF.cell_some h.2.1 h2, hF.cell_some h.2.2.1 h3, hF.cell_some h.2.2.2.1 h3, hF.cell_some h.2.2.2.2 h3⟩
   have HS6 : Hid ((BoxT b3 bc gO kn (.slice (some ⟨gO, 0, none⟩) (kn + 1) cO) (.slice l.A l.n l.c) (.slice (some ⟨W.heap.size, 0, none⟩) kl cc) (.slice xA xn xc) (.bool false)) w6) := Lib.hid (hfrS HS5.out (HN6.out.toFr NoB) (fun x => x) (fun x => x) (fun x => x))
   refine hK.out _ _ (fun _ => HS6.out) ?_
   clear hK K hB6 hN6 hl6
   refine mix_act (o := ⟨_, _, _, _, _, _⟩) rfl (fun K hK => ?_) (.inl rfl)
   refine step_app elC _ (by rfl) (.tmp 46) (.tmp 48) (by rfl) lo (.slice l.A l.n l.c) l.n (l.L.flatMap Ch.cells) (by rfl) (HN6.out.own HB.out.nst.last) (some ⟨gb, 0, none⟩) 1 1 (⟨⟨some ⟨W.heap.size, 0, none⟩, kl, cc, xk⟩, ⟨xA, xn, xc, xs⟩, false⟩ : Ch).cells (by rfl) (Rd.ofBlk (p := fun _ => True) (t := 124) (cs := #[.slice (some ⟨W.heap.size, 0, none⟩) kl cc, .slice xA xn xc, .bool false]) HB6.out 3 1 rfl trivial) (cells_one (⟨⟨some ⟨W.heap.size, 0, none⟩, kl, cc, xk⟩, ⟨xA, xn, xc, xs⟩, false⟩ : Ch)) (by unfold maxLen; omega) (by omega) (Nat.le_trans HZ5.out HN6.out.size) ?_
   intro A' c' w7 hO7 hF7 hA7
   simp only [Act.put, List.setIfInBounds_toArray, List.set_cons_zero, List.set_cons_succ]
   have HO7 := Lib.hid hO7
   have HF7 : Hid (Fr (fun k => (Value.slice l.A l.n l.c).ownBlock = some k) W5 w7) := Lib.hid ((HN6.out.toFr _).trans hF7)
   have HA7 : Hid (∀ k, (Value.slice A' (l.n + 1) c').ownBlock = some k → (Value.slice l.A l.n l.c).ownBlock = some k ∨ W5.heap.size ≤ k) := Lib.hid (fun k hk => (hA7 k hk).imp id (fun h => Nat.le_trans HN6.out.size h))
   have hn3 : ¬ (Value.slice l.A l.n l.c).ownBlock = some b3 := own_ne HB.out.nst.last HB.out.B3 (by decide)
   have hn4 : ¬ (Value.slice l.A l.n l.c).ownBlock = some b4 := own_ne HB.out.nst.last HB.out.B4 (by decide)
   have hng : ¬ (Value.slice l.A l.n l.c).ownBlock = some gO := own_own_ne HB.out.nst.out HB.out.nst.last HB.out.nst.ne rfl
   have hnc : ¬ (Value.slice l.A l.n l.c).ownBlock = some bc := fun e => by
    obtain ⟨v0', l0', hv, hl, hb'⟩ := HR.out.bef
    rcases hb'.hl bc e with h' | h'
    · have := hl.lt h'
      have := HBCZ.out
      have := HN2.out.size
      omega
    · omega
   have HS7 : Hid ((BoxT b3 bc gO kn (.slice (some ⟨gO, 0, none⟩) (kn + 1) cO) (.slice l.A l.n l.c) (.slice (some ⟨W.heap.size, 0, none⟩) kl cc) (.slice xA xn xc) (.bool false)) w7) := Lib.hid (hfrS HS5.out HF7.out hn3 hng hnc)
   refine hK.out _ _ (fun _ => HS7.out) ?_
   clear hK K hO7 hF7 hA7
   refine mix_take (o := ⟨_, _, _, _, _, _⟩) rfl (fun K hK => ?_); go_simp; refine hK _ ?_; clear hK K
   refine mix_act (o := ⟨_, _, _, _, _, _⟩) rfl (fun K hK => ?_) (.inl rfl)
   have c7 : w7.cell? ⟨gO, kn, none⟩ = some (.slice l.A l.n l.c) := HS7.out.2.1
   have f7 : w7.frozen? ⟨gO, kn, none⟩ = false := by
    rw [HF7.out.frozen (p := ⟨gO, kn, none⟩) ((own_lt HB.out.nst.out gO rfl).2) hng]
    exact HB.out.nst.lastFrozen kn
   clear q3 qr qa qb qc
   go_simp
   refine hK.out _ _ (fun h => absurd rfl h) ?_
   clear hK K hne
   refine mix_doneIn ?_
   obtain ⟨w8, hw8⟩ : ∃ w8, w8 = w7.setCell ⟨gO, kn, none⟩ (.slice A' (l.n + 1) c') := ⟨_, rfl⟩
   rw [← hw8]
   have HW8 := Lib.hid hw8
   have hF8 : Fr (fun k => k = gO) w7 w8 := by rw [hw8]; exact (Fr.refl (fun k => k = gO) w7).setCell (p := ⟨gO, kn, none⟩) (fun _ => rfl) _
   have hg4 : b4 ≠ gO := fun e => own_ne HB.out.nst.out HB.out.B4 (by decide) (by rw [e]; rfl)
   have hgc : bc ≠ gO := fun e => own_ne HB.out.nst.out HB.out.Bc (by decide) (by rw [e]; rfl)
   have HB48 : Hid (Blk w8 b4 3 #[.int .i64 r5]) := Lib.hid ((HB.out.B4.fr HF7.out hn4).fr hF8 hg4)
   have HBc8 : Hid (Blk w8 bc 124 #[.slice (some ⟨W.heap.size, 0, none⟩) kl cc, .slice xA xn xc, .bool false]) := Lib.hid ((HB.out.Bc.fr HF7.out hnc).fr hF8 hgc)
   have hS8 : (BoxU b4 bc (.int .i64 r5) (.slice (some ⟨W.heap.size, 0, none⟩) kl cc) (.slice xA xn xc) (.bool false)) w8.drew := ⟨HB48.out.cell 0, HBc8.out.cell 0, HBc8.out.cell 1, HBc8.out.cell 2⟩
   clear hw8 hF8 c7 f7 hn3 hn4 hng hnc hg4 hgc
   gi_wp2
   refine wpIn_region_mix lp (BoxU b4 bc (.int .i64 r5) (.slice (some ⟨W.heap.size, 0, none⟩) kl cc) (.slice xA xn xc) (.bool false)) 4 [(true, 0), (true, 1), (false, 2), (true, 3), (false, 4)] (by kernel_rfl) (by kernel_rfl) hS8 (fun hne => ?_)
   have q4 : ∀ p : HW (BoxU b4 bc (.int .i64 r5) (.slice (some ⟨W.heap.size, 0, none⟩) kl cc) (.slice xA xn xc) (.bool false)), p.w.cell? ⟨b4, 0, none⟩ = some (.int .i64 r5) := fun p => p.h.1
   have qa : ∀ p : HW (BoxU b4 bc (.int .i64 r5) (.slice (some ⟨W.heap.size, 0, none⟩) kl cc) (.slice xA xn xc) (.bool false)), p.w.cell? ⟨bc, 0, none⟩ = some _ := fun p => p.h.2.1
   have qb : ∀ p : HW (BoxU b4 bc (.int .i64 r5) (.slice (some ⟨W.heap.size, 0, none⟩) kl cc) (.slice xA xn xc) (.bool false)), p.w.cell? ⟨bc, 1, none⟩ = some _ := fun p => p.h.2.2.1
   have qc : ∀ p : HW (BoxU b4 bc (.int .i64 r5) (.slice (some ⟨W.heap.size, 0, none⟩) kl cc) (.slice xA xn xc) (.bool false)), p.w.cell? ⟨bc, 2, none⟩ = some _ := fun p => p.h.2.2.2
   iterate 2 (refine mix_take (o := ⟨_, _, _, _, _, _⟩) rfl (fun K hK => ?_); go_simp; refine hK _ ?_; clear hK K)
   refine mix_act (o := ⟨_, _, _, _, _, _⟩) rfl (fun K hK => ?_) (.inl rfl)
   go_simp
   refine (cbytes_any (⟨⟨some ⟨W.heap.size, 0, none⟩, kl, cc, xk⟩, ⟨xA, xn, xc, xs⟩, false⟩ : Ch) _ (by dsimp only; omega) (by dsimp only; omega) rfl).mono ?_
   rintro e w9 ⟨rfl, hN9⟩
   dsimp only
   have HN9 : Hid (New w8 w9) := Lib.hid (New.tr (New.dr (New.refl _)) hN9)
   have HB49 := Lib.hid (HN9.out.blk HB48.out)
   have HBc9 := Lib.hid (HN9.out.blk HBc8.out)
   refine hK.out _ _ (fun _ => ⟨HB49.out.cell 0, HBc9.out.cell 0, HBc9.out.cell 1, HBc9.out.cell 2⟩) ?_
   clear hK K hN9
   have hwr : IntKind.i64.wrap (r5 - (5 + (kl : Int) + (xn : Int))) = r5 - (5 + (kl : Int) + (xn : Int)) := IntWalk.i64_in _ (by have := HR.out.rr; have := HR.out.ls; have := HR.out.l6; omega)
   refine mix_take (o := ⟨_, _, _, _, _, _⟩) rfl (fun K hK => ?_); go_simp; refine hK _ ?_; clear hK K
   refine mix_act (o := ⟨_, _, _, _, _, _⟩) rfl (fun K hK => ?_) (.inl rfl)
   have c9 : w9.cell? ⟨b4, 0, none⟩ = some (.int .i64 r5) := HB49.out.cell 0
   have f9 : w9.frozen? ⟨b4, 0, none⟩ = false := HB49.out.frozen 0
   clear q4 qa qb qc
   go_simp
   refine hK.out _ _ (fun h => absurd rfl h) ?_
   clear hK K hne
   refine mix_doneIn ?_
   have hszY : szc (⟨⟨some ⟨W.heap.size, 0, none⟩, kl, cc, xk⟩, ⟨xA, xn, xc, xs⟩, false⟩ : Ch) = 5 + kl + xn := by unfold szc; dsimp only; rw [HKL.out, HXV.out]
   refine ⟨rfl, bt_end (x := (xk, ⟨xA, xn, xc, xs⟩)) HF.out (by have := HZ.out; omega) HZB.out.1 HZB.out.2 HN2.out HBCZ.out HR.out rfl HO7.out HF7.out HA7.out HBT.out rfl rfl ⟨rfl, by dsimp only; omega, by dsimp only; omega⟩ (by rw [hszY]; omega) (by rw [← HW8.out]; exact HN9.out) (by rw [hszY]; omega)⟩
 case done =>
  rintro D fs W hD hfs ⟨hF, v, r, hB3, hB4, hS⟩ hDm
  have HNW : Hid (New w W) := Lib.hid ((HN1.out.tr HN2.out).fr hF (fun k hk => by have := HZ.out; omega))
  have HDM := Lib.hid hDm
  have hans : ∃ (A : Option Addr) (n c : Nat) (R : List Sl) (P : List Ch), v = .slice A n c ∧ (Bts W A n R ∧ BtsN w.heap.size W.heap.size W A n R) ∧ cl P = sct_l19 (cont E) ∧ R.map Sl.L = rws (spl szc P) ∧ (∀ y ∈ P, ChS y) := by
   have he : kvs fs = sct_l19 (cont E) := hfs.trans (cont_st E)
   rcases hS with ⟨h1, h2, -⟩ | ⟨gO, nO, cO, C, l, lo, P, h1, h2, h3, h4, -, h6, -⟩
   · refine ⟨none, 0, 0, [], [], h2, ⟨Bts.nil W, BtsN.nil _ _ W⟩, ?_, rfl, fun y hy => by cases hy⟩
     rw [← he, h1]
     rfl
   · refine ⟨_, _, _, _, P, h1, ⟨h2.bts, h2.btsN (fun j hj => by have := HZ.out; omega)⟩, h3.trans he, ?_, h6⟩
     rw [h4]
     simp [rws]
  obtain ⟨A, n, c, R, P, hv, hbt, hP, hR, hY⟩ := hans
  subst hv
  have c3 : W.cell? ⟨b3, 0, none⟩ = some (.slice A n c) := hB3.cell 0
  have HBT := Lib.hid hbt
  have HP := Lib.hid hP
  have HR := Lib.hid hR
  have HY := Lib.hid hY
  clear hF hB3 hB4 hS hfs hDm hbt hP hR hY
  dsimp only
  go_wp2_with fail
  refine leaves_marks [D] W (Marks.cons (Marks.nil w2.heap.size W) (fun _ h => by cases h) hD HDM.out) (fun W' hS => ⟨.slice A n c, by simp [results, Tryz.results237, go_sem], ⟨A, n, c, R, P, rfl, ⟨HBT.out.1.shut hS, _, HBT.out.2.shut hS, hS.below.size⟩, HP.out, HR.out, HY.out⟩, ?_⟩)
  exact HNW.out.trans (hS.below.mono (HN1.out.tr HN2.out).size)
end Go.Proofs.YtpifnmlnhddgeaaGreatDoor
namespace Go.Proofs.YtpifnmlnhddgeaaGreatDoor
set_option linter.unusedVariables false
set_option linter.unusedSimpArgs false
set_option linter.constructorNameAsVariable false
open Go.RowKit Go.Maps Go.Sort
theorem own_one {w : World} {base g size : Nat} {t : TypeId} {cs : Array Value} (h : Blk w g t cs) (hs : cs.size = size) (hb : base ≤ g) : w.ownsRow base t size (.slice (some ⟨g, 0, none⟩) 1 1) 1 cs.toList :=
 ⟨by simp [hs], .inr ⟨g, 1, cs, rfl, hb, h, Nat.le_refl _, by unfold maxLen; omega, by omega, by rw [List.take_of_length_le]; simp [hs]⟩⟩
end Go.Proofs.YtpifnmlnhddgeaaGreatDoor
namespace Go.Proofs.YtpifnmlnhddgeaaGreatDoor
set_option linter.unusedVariables false
set_option linter.unusedSimpArgs false
set_option linter.constructorNameAsVariable false
open Go.RowKit Go.Maps Go.Sort
theorem rd_not_map {q : Nat → Prop} {w : World} {s n : Nat} {A : Option Addr} {xs : List Value} {P : Program} {kt : TypeId} {b m : Nat} {f : Lit → Option Value} (h : Rd q w s A n xs) (hM : MapAt w P kt b m f) (hs : 0 < s) : Rd (fun k => q k ∧ k ≠ b) w s A n xs := by
 refine ⟨h.1, fun hn => ?_⟩
 obtain ⟨ad, e, hp, hb, hc⟩ := h.2 hn
 refine ⟨ad, e, ⟨hp, fun hab => ?_⟩, hb, hc⟩
 have hl : 0 < xs.length := by rw [h.1]; exact Nat.mul_pos hn hs
 have h0 := hc 0 _ (List.getElem?_eq_getElem hl)
 obtain ⟨D, ⟨es, clock, hx, _⟩, _⟩ := hM
 have hx' : w.heap[(ad.add 0).block]? = some (.map es clock) := by rw [add_block, hab]; exact hx
 simp [World.cell?, hx'] at h0
theorem doCs_le (T : CT) (L : List Ch) : (doCs T L).length ≤ T.length + L.length := by
 unfold doCs
 induction L generalizing T with
 | nil => simp
 | cons c L ih =>
  rw [List.foldl_cons, List.length_cons]
  have := ih (doC T c)
  have := doC_le T c
  omega
end Go.Proofs.YtpifnmlnhddgeaaGreatDoor
namespace Go.Proofs.YtpifnmlnhddgeaaGreatDoor
set_option linter.unusedVariables false
set_option linter.unusedSimpArgs false
set_option linter.constructorNameAsVariable false
open Go.RowKit Go.Maps Go.Sort
def ct1 (c : Ch) : List Int × List Int := (c.k.xs, c.v.xs)
def sz1 (e : List Int × List Int) : Nat := 5 + e.1.length + e.2.length
theorem cdel_none {T : CT} {k : List Int} (h : k ∉ T.map Prod.fst) : cdel T k = T := by
 unfold cdel
 rw [List.filter_eq_self]
 intro e he
 simp only [decide_eq_true_eq]
 exact fun e1 => h (e1 ▸ List.mem_map_of_mem he)
theorem flat_rows {R : List Sl} {P : List Ch} (h : R.map Sl.L = rws (spl szc P)) : R.flatMap Sl.L = P := by
 rw [List.flatMap_def, h, spl_flat]
theorem rows_le {α : Type} : ∀ (LL : List (List α)), (∀ l ∈ LL, 1 ≤ l.length) → LL.length ≤ LL.flatten.length
 | [], _ => Nat.le_refl _
 | l :: LL, h => by
  have h1 := h l (List.mem_cons_self ..)
  have h2 := rows_le LL (fun x hx => h x (List.mem_cons_of_mem _ hx))
  rw [List.flatten_cons, List.length_append, List.length_cons]
  omega
end Go.Proofs.YtpifnmlnhddgeaaGreatDoor
