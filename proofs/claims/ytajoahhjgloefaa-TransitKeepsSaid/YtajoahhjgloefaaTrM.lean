/- TransitFair's round, loop and walk. (mkfairb.py writes this text.) No condition. -/
import Derived.Test.YtajoahhjgloefaaTrL
import Derived.Deep.CutRange
import Derived.Deep.CutBlock
namespace Go.Proofs.Ytajoahhjgloefaa
open Go.RowKit Go.Maps
attribute [local go_sem] Oper.semAt_some

noncomputable def flp : Code := loopOf ((Try.f3.body.bind (findC isLoop)).getD .skip)
/-- What the loop holds. -/
def FL (w : World) (base g bl c0 : Nat) (C : Bool → Nat) (p : Int) (k : Nat) (Ds : List Nat) (wr : World) : Prop :=
  (∃ (X : Nat → Prop) (l1 l2 : Ln) (f : Bool → Lit → Option Value) (m : Bool → Nat), FN wr base g bl c0 C p k X l1 l2 f m) ∧ Marks w.heap.size Ds wr ∧ New w wr
set_option maxRecDepth 100000 in
def FW (x1 x2 x3 x6 x8 x16 x17 x18 x19 x20 x21 x22 x23 x24 x25 x26 x27 x28 x29 x30 x31 x32 x51 : Value) (w : World) (base g bl c0 : Nat) (C : Bool → Nat) (p : Int) (A : Option Addr) (n c : Nat) (a : Act) (wr : World) : Prop :=
  ∃ (Ds : List Nat) (u4 u9 u10 u11 u12 u13 u14 u15 u36 u37 u38 u39 u40 u41 u42 u43 u44 u45 u46 u47 u48 u49 u50 u52 u53 u54 u55 u56 u57 u58 u59 u60 u61 u62 u63 u64 u65 u66 u67 u68 u69 u70 u71 u72 u73 u74 u75 u76 u77 u78 u79 u80 u81 u82 u83 u84 u85 u86 u87 u88 u89 u90 u91 u92 u93 u94 u95 u96 u97 u98 u99 u100 u101 u102 u103 u104 u105 u106 u107 u108 u109 u110 u111 u112 u113 u114 u115 u116 u117 u118 u119 u120 u121 u122 u123 u124 u125 u126 u127 u128 u129 u130 u131 u132 u133 u134 u135 u136 u137 u138 u139 u140 u141 u142 u143 u144 u145 u146 u147 u148 u149 u150 u151 : Value) (k : Nat), (k ≤ n ∧ FL w base g bl c0 C p k Ds wr) ∧ a = ⟨#[.int .i64 p, x1, x2, x3, u4, .pointer (some ⟨g, 0, none⟩), x6, .pointer (some ⟨bl, 0, none⟩), x8, u9, u10, u11, u12, u13, u14, u15, x16, x17, x18, x19, x20, x21, x22, x23, x24, x25, x26, x27, x28, x29, x30, x31, x32, .slice A n c, .int .i64 n, .int .i64 k, u36, u37, u38, u39, u40, u41, u42, u43, u44, u45, u46, u47, u48, u49, u50, x51, u52, u53, u54, u55, u56, u57, u58, u59, u60, u61, u62, u63, u64, u65, u66, u67, u68, u69, u70, u71, u72, u73, u74, u75, u76, u77, u78, u79, u80, u81, u82, u83, u84, u85, u86, u87, u88, u89, u90, u91, u92, u93, u94, u95, u96, u97, u98, u99, u100, u101, u102, u103, u104, u105, u106, u107, u108, u109, u110, u111, u112, u113, u114, u115, u116, u117, u118, u119, u120, u121, u122, u123, u124, u125, u126, u127, u128, u129, u130, u131, u132, u133, u134, u135, u136, u137, u138, u139, u140, u141, u142, u143, u144, u145, u146, u147, u148, u149, u150, u151], Ds.map mk1⟩
def Fmu (n : Nat) (a : Act) (_ : World) : Nat := n - (intOf (a.tmps.getD 35 undef)).toNat

theorem elS : ElemOf Try.prog 36 9 1 16 := ElemOf.mk' (z := .string ⟨#[]⟩) Try.underlying36 (by kernel_rfl) rfl (by decide)

section
variable {B : Nat} {W W' : World}
theorem Puts.keep {k : Nat} {o : Obj} (h : Puts B W W') (hk : W.heap[k]? = some o) (hc : o.isCells = true) : W'.heap[k]? = some o := by
  obtain ⟨l, o1, o', -, hl, ho, rfl⟩ := h
  refine (World.putObj_heap_other fun e => ?_).trans hk
  rw [e, hl] at hk
  injection hk with hk
  rw [hk, hc] at ho
  cases ho
theorem Puts.blk {g : Nat} {t : TypeId} {cs : Array Value} (h : Puts B W W') (hb : Blk W g t cs) : Blk W' g t cs := h.keep hb rfl
theorem Puts.fr {S : Nat → Prop} (h : Puts B W W') (hS : ∀ j, B ≤ j → S j) : Fr S W W' := by
  obtain ⟨l, o1, o', hB, hl, ho, rfl⟩ := h
  exact ⟨rfl, rfl, rfl, by simp, fun k _ hk => World.putObj_heap_other (fun e => hk (e ▸ hS _ hB))⟩
theorem Puts.own {base e size n : Nat} {v : Value} {xs : List Value} (h : Puts B W W') (ho : W.ownsRow base e size v n xs) : W'.ownsRow base e size v n xs := by
  refine ⟨ho.1, ?_⟩
  rcases ho.2 with h2 | ⟨g, cap, cur, rfl, hb, hh, rest⟩
  · exact .inl h2
  · exact .inr ⟨g, cap, cur, rfl, hb, h.keep hh rfl, rest⟩
theorem Marks.fr {B : Nat} {Ds : List Nat} {S : Nat → Prop} (h : Marks B Ds W) (hF : Fr S W W') (hS : ∀ D, S D → ¬ W.heap[D]? = some (.deferred (some []))) : Marks B Ds W' :=
  ⟨h.1, fun D hD => ⟨(h.2 D hD).1, (hF.block D (h.lt hD) (fun hs => hS D hs (h.2 D hD).2)).trans (h.2 D hD).2⟩⟩
theorem Marks.new {B : Nat} {Ds : List Nat} (h : Marks B Ds W) (hN : New W W') : Marks B Ds W' := h.fr (S := NoB) (hN.toFr _) (fun _ x => x.elim)
end
theorem not_def_blk {W : World} {k t : Nat} {cs : Array Value} (h : Blk W k t cs) : ¬ W.heap[k]? = some (.deferred (some [])) := by
  intro e
  unfold Blk at h
  rw [h] at e
  cases e
theorem not_def_map {W : World} {P : Program} {kt b n : Nat} {f : Lit → Option Value} (h : MapAt W P kt b n f) : ¬ W.heap[b]? = some (.deferred (some [])) := by
  intro e
  obtain ⟨D, ⟨es, clock, hx, _⟩, _⟩ := h
  rw [hx] at e
  cases e
theorem not_def_own {W : World} {base e size n k : Nat} {v : Value} {xs : List Value} (h : W.ownsRow base e size v n xs) (hk : v.ownBlock = some k) : ¬ W.heap[k]? = some (.deferred (some [])) := by
  intro he
  obtain ⟨cs, fz, hx⟩ := own_isT h hk
  rw [hx] at he
  cases he
theorem LnIn.no_def {X : Nat → Prop} {W : World} {base : Nat} {l : Ln} (h : LnIn X W base l) {k : Nat} (hk : Lo l k) : ¬ W.heap[k]? = some (.deferred (some [])) := by
  rcases hk with rfl | hk
  · exact not_def_map h.map
  · exact not_def_own h.own hk
theorem FN.no_def {W : World} {base g bl c0 : Nat} {C : Bool → Nat} {p : Int} {k : Nat} {X : Nat → Prop} {l1 l2 : Ln} {f : Bool → Lit → Option Value} {m : Bool → Nat} (h : FN W base g bl c0 C p k X l1 l2 f m) {D : Nat} (hD : Ours g bl C l1 l2 D) : ¬ W.heap[D]? = some (.deferred (some [])) := by
  rcases hD with (rfl | h1 | h1) | ⟨i, rfl⟩
  · exact not_def_blk h.nt.blk
  · exact h.nt.one.no_def h1
  · exact h.nt.two.no_def h1
  · exact not_def_map (h.M i)
theorem FN.keep {W W' : World} {S : Nat → Prop} {base g bl c0 : Nat} {C : Bool → Nat} {p : Int} {k : Nat} {X : Nat → Prop} {l1 l2 : Ln} {f : Bool → Lit → Option Value} {m : Bool → Nat} (h : FN W base g bl c0 C p k X l1 l2 f m) (hF : Fr S W W') (hS : ∀ j, S j → W.heap.size ≤ j) : FN W' base g bl c0 C p k X l1 l2 f m := by
  have hn : ∀ j, (No g l1 l2 j ∨ X j ∨ j = bl ∨ ∃ i, j = C i) → ¬ S j := fun j hj hs => by
    have := h.old hj
    have := hS j hs
    omega
  exact ⟨h.nt.fr hF (fun j hs hj => hn j (.inl hj) hs) (fun j hs hj => hn j (.inr (.inl hj)) hs), h.BL.fr hF (hn _ (.inr (.inr (.inl rfl)))), fun i => (h.M i).fr hF (hn _ (.inr (.inr (.inr ⟨i, rfl⟩)))), h.mle, h.cnt, h.apart, h.cc, h.lb⟩
/-- What the range's rounds keep. -/
def RI (z b9 b10 : Nat) (row : Array Value) (w2 : World) (pre : List Fm) (W : World) : Prop :=
  (∃ v, Blk W b10 36 #[v] ∧ W.ownsRow z 9 1 v pre.length (strs pre)) ∧ Blk W b9 35 row ∧ Fr (fun j => z ≤ j) w2 W
theorem RI.new {z b9 b10 : Nat} {row : Array Value} {w2 : World} {pre : List Fm} {W W' : World} (h : RI z b9 b10 row w2 pre W) (hN : New W W') : RI z b9 b10 row w2 pre W' := by
  obtain ⟨⟨v, h1, h2⟩, h3, h4⟩ := h
  exact ⟨⟨v, hN.blk h1, hN.own h2⟩, hN.blk h3, h4.trans (hN.toFr _)⟩
theorem RI.puts {z b9 b10 B : Nat} {row : Array Value} {w2 : World} {pre : List Fm} {W W' : World} (h : RI z b9 b10 row w2 pre W) (hz : z ≤ B) (hp : Puts B W W') : RI z b9 b10 row w2 pre W' := by
  obtain ⟨⟨v, h1, h2⟩, h3, h4⟩ := h
  exact ⟨⟨v, hp.blk h1, hp.own h2⟩, hp.blk h3, h4.trans (hp.fr (fun j hj => Nat.le_trans hz hj))⟩
theorem wp_only {P : Program} {c : Code} {K : Act → World → Prop} {Q0 : Exit → Act → World → Prop} {a : Act} {w : World} (h : c.wp P (Exit.then K fun _ _ _ => False) a w) : c.wp P (Exit.then K Q0) a w :=
  wp_mono h fun e a' w' hq => by
    cases e <;> first | exact hq | exact hq.elim
theorem wp_sw {P : Program} {c : Code} {Q : Exit → Act → World → Prop} {a : Act} {w : World} (R : Act → World → Prop) (h1 : ∀ a' w', R a' w' → Q .normal a' w')
    (h2 : ∀ K' : Act → World → Prop, (∀ a' w', R a' w' → K' a' w') → c.wp P (Exit.then K' fun _ _ _ => False) a w) : c.wp P Q a w :=
  wp_mono (h2 (fun a w => Q .normal a w) h1) fun e a' w' hq => by
    cases e <;> first | exact hq | exact hq.elim
theorem Marks.keep {W W' : World} {B : Nat} {Ds : List Nat} {S : Nat → Prop} (h : Marks B Ds W) (hF : Fr S W W') (hS : ∀ j, S j → W.heap.size ≤ j) : Marks B Ds W' :=
  ⟨h.1, fun D hD => ⟨(h.2 D hD).1, (hF.block D (h.lt hD) (fun hs => by have := hS D hs; have := h.lt hD; omega)).trans (h.2 D hD).2⟩⟩
theorem strs_eq {L M : List Fm} (h : L.map Fm.xs = M.map Fm.xs) : strs L = strs M := by
  have : ∀ L : List Fm, strs L = (L.map Fm.xs).map (fun xs => Value.string (strOfNums xs)) := fun L => by simp [strs, List.map_map, Function.comp_def]
  rw [this, this, h]
theorem strs_one (L : List Fm) : ∀ u ∈ strs L, u.oneCell' = true := by
  intro u hu
  obtain ⟨x, _, rfl⟩ := List.mem_map.1 hu
  rfl
theorem strs_len (L : List Fm) : (strs L).length = L.length := by simp [strs]

theorem FL.next {W w' : World} {w : World} {base g bl c0 : Nat} {C : Bool → Nat} {p : Int} {k : Nat} {X : Nat → Prop} {l1 l2 : Ln} {f : Bool → Lit → Option Value} {m : Bool → Nat} {Ds : List Nat} (h : FN W base g bl c0 C p k X l1 l2 f m) (hM : Marks w.heap.size Ds W) (hN : New w W) (hB : w.heap.size ≤ base) (hx : FX W base g bl c0 C p k X l1 l2 w') :
    FL w base g bl c0 C p (k + 1) Ds w' :=
  ⟨hx.1, hM.fr hx.2 (fun D hD => h.no_def hD), hN.fr hx.2 (by
    rintro j (hj | ⟨i, rfl⟩)
    · have := (h.nt.ours hj).1; omega
    · have := h.lb.2 i; omega)⟩
set_option maxHeartbeats 16000000 in
set_option maxRecDepth 100000 in
theorem f_round {x1 x2 x3 x6 x8 x16 x17 x18 x19 x20 x21 x22 x23 x24 x25 x26 x27 x28 x29 x30 x31 x32 x51 : Value} {w : World} {base g bl c0 : Nat} {C : Bool → Nat} {p : Int} {A : Option Addr} {n c : Nat} (L : List Ac) (hL : L.length = n) (hR : Rd (fun b => b < w.heap.size) w 4 A n (L.flatMap Ac.cells)) (hg : ∀ a ∈ L, a.Good w) (h6 : n ≤ 600) (h2 : ∀ a ∈ L, a.x.n ≤ 200) (hB : w.heap.size ≤ base) {Q0 : Exit → Act → World → Prop}
    (hexit : ∀ (Ds : List Nat) (u4 u9 u10 u11 u12 u13 u14 u15 u36 u37 u38 u39 u40 u41 u42 u43 u44 u45 u46 u47 u48 u49 u50 u52 u53 u54 u55 u56 u57 u58 u59 u60 u61 u62 u63 u64 u65 u66 u67 u68 u69 u70 u71 u72 u73 u74 u75 u76 u77 u78 u79 u80 u81 u82 u83 u84 u85 u86 u87 u88 u89 u90 u91 u92 u93 u94 u95 u96 u97 u98 u99 u100 u101 u102 u103 u104 u105 u106 u107 u108 u109 u110 u111 u112 u113 u114 u115 u116 u117 u118 u119 u120 u121 u122 u123 u124 u125 u126 u127 u128 u129 u130 u131 u132 u133 u134 u135 u136 u137 u138 u139 u140 u141 u142 u143 u144 u145 u146 u147 u148 u149 u150 u151 : Value) (wr : World), FL w base g bl c0 C p n Ds wr → Q0 (.exit 0) ⟨#[.int .i64 p, x1, x2, x3, u4, .pointer (some ⟨g, 0, none⟩), x6, .pointer (some ⟨bl, 0, none⟩), x8, u9, u10, u11, u12, u13, u14, u15, x16, x17, x18, x19, x20, x21, x22, x23, x24, x25, x26, x27, x28, x29, x30, x31, x32, .slice A n c, .int .i64 n, .int .i64 n, u36, u37, u38, u39, u40, u41, u42, u43, u44, u45, u46, u47, u48, u49, u50, x51, u52, u53, u54, u55, u56, u57, u58, u59, u60, u61, u62, u63, u64, u65, u66, u67, u68, u69, u70, u71, u72, u73, u74, u75, u76, u77, u78, u79, u80, u81, u82, u83, u84, u85, u86, u87, u88, u89, u90, u91, u92, u93, u94, u95, u96, u97, u98, u99, u100, u101, u102, u103, u104, u105, u106, u107, u108, u109, u110, u111, u112, u113, u114, u115, u116, u117, u118, u119, u120, u121, u122, u123, u124, u125, u126, u127, u128, u129, u130, u131, u132, u133, u134, u135, u136, u137, u138, u139, u140, u141, u142, u143, u144, u145, u146, u147, u148, u149, u150, u151], Ds.map mk1⟩ wr)
    (a : Act) (wr : World) (hI : FW x1 x2 x3 x6 x8 x16 x17 x18 x19 x20 x21 x22 x23 x24 x25 x26 x27 x28 x29 x30 x31 x32 x51 w base g bl c0 C p A n c a wr) : flp.wp Try.prog (Exit.then (fun a' w' => FW x1 x2 x3 x6 x8 x16 x17 x18 x19 x20 x21 x22 x23 x24 x25 x26 x27 x28 x29 x30 x31 x32 x51 w base g bl c0 C p A n c a' w' ∧ Fmu n a' w' < Fmu n a wr) Q0) a wr := by
  have HE := Lib.hid hexit
  have HR := Lib.hid hR
  have HL := Lib.hid hL
  have HG := Lib.hid hg
  have H2 := Lib.hid h2
  clear hexit hR hL hg h2
  unfold FW at hI
  obtain ⟨Ds, hI⟩ := hI
  obtain ⟨u4, hI⟩ := hI
  obtain ⟨u9, hI⟩ := hI
  obtain ⟨u10, hI⟩ := hI
  obtain ⟨u11, hI⟩ := hI
  obtain ⟨u12, hI⟩ := hI
  obtain ⟨u13, hI⟩ := hI
  obtain ⟨u14, hI⟩ := hI
  obtain ⟨u15, hI⟩ := hI
  obtain ⟨u36, hI⟩ := hI
  obtain ⟨u37, hI⟩ := hI
  obtain ⟨u38, hI⟩ := hI
  obtain ⟨u39, hI⟩ := hI
  obtain ⟨u40, hI⟩ := hI
  obtain ⟨u41, hI⟩ := hI
  obtain ⟨u42, hI⟩ := hI
  obtain ⟨u43, hI⟩ := hI
  obtain ⟨u44, hI⟩ := hI
  obtain ⟨u45, hI⟩ := hI
  obtain ⟨u46, hI⟩ := hI
  obtain ⟨u47, hI⟩ := hI
  obtain ⟨u48, hI⟩ := hI
  obtain ⟨u49, hI⟩ := hI
  obtain ⟨u50, hI⟩ := hI
  obtain ⟨u52, hI⟩ := hI
  obtain ⟨u53, hI⟩ := hI
  obtain ⟨u54, hI⟩ := hI
  obtain ⟨u55, hI⟩ := hI
  obtain ⟨u56, hI⟩ := hI
  obtain ⟨u57, hI⟩ := hI
  obtain ⟨u58, hI⟩ := hI
  obtain ⟨u59, hI⟩ := hI
  obtain ⟨u60, hI⟩ := hI
  obtain ⟨u61, hI⟩ := hI
  obtain ⟨u62, hI⟩ := hI
  obtain ⟨u63, hI⟩ := hI
  obtain ⟨u64, hI⟩ := hI
  obtain ⟨u65, hI⟩ := hI
  obtain ⟨u66, hI⟩ := hI
  obtain ⟨u67, hI⟩ := hI
  obtain ⟨u68, hI⟩ := hI
  obtain ⟨u69, hI⟩ := hI
  obtain ⟨u70, hI⟩ := hI
  obtain ⟨u71, hI⟩ := hI
  obtain ⟨u72, hI⟩ := hI
  obtain ⟨u73, hI⟩ := hI
  obtain ⟨u74, hI⟩ := hI
  obtain ⟨u75, hI⟩ := hI
  obtain ⟨u76, hI⟩ := hI
  obtain ⟨u77, hI⟩ := hI
  obtain ⟨u78, hI⟩ := hI
  obtain ⟨u79, hI⟩ := hI
  obtain ⟨u80, hI⟩ := hI
  obtain ⟨u81, hI⟩ := hI
  obtain ⟨u82, hI⟩ := hI
  obtain ⟨u83, hI⟩ := hI
  obtain ⟨u84, hI⟩ := hI
  obtain ⟨u85, hI⟩ := hI
  obtain ⟨u86, hI⟩ := hI
  obtain ⟨u87, hI⟩ := hI
  obtain ⟨u88, hI⟩ := hI
  obtain ⟨u89, hI⟩ := hI
  obtain ⟨u90, hI⟩ := hI
  obtain ⟨u91, hI⟩ := hI
  obtain ⟨u92, hI⟩ := hI
  obtain ⟨u93, hI⟩ := hI
  obtain ⟨u94, hI⟩ := hI
  obtain ⟨u95, hI⟩ := hI
  obtain ⟨u96, hI⟩ := hI
  obtain ⟨u97, hI⟩ := hI
  obtain ⟨u98, hI⟩ := hI
  obtain ⟨u99, hI⟩ := hI
  obtain ⟨u100, hI⟩ := hI
  obtain ⟨u101, hI⟩ := hI
  obtain ⟨u102, hI⟩ := hI
  obtain ⟨u103, hI⟩ := hI
  obtain ⟨u104, hI⟩ := hI
  obtain ⟨u105, hI⟩ := hI
  obtain ⟨u106, hI⟩ := hI
  obtain ⟨u107, hI⟩ := hI
  obtain ⟨u108, hI⟩ := hI
  obtain ⟨u109, hI⟩ := hI
  obtain ⟨u110, hI⟩ := hI
  obtain ⟨u111, hI⟩ := hI
  obtain ⟨u112, hI⟩ := hI
  obtain ⟨u113, hI⟩ := hI
  obtain ⟨u114, hI⟩ := hI
  obtain ⟨u115, hI⟩ := hI
  obtain ⟨u116, hI⟩ := hI
  obtain ⟨u117, hI⟩ := hI
  obtain ⟨u118, hI⟩ := hI
  obtain ⟨u119, hI⟩ := hI
  obtain ⟨u120, hI⟩ := hI
  obtain ⟨u121, hI⟩ := hI
  obtain ⟨u122, hI⟩ := hI
  obtain ⟨u123, hI⟩ := hI
  obtain ⟨u124, hI⟩ := hI
  obtain ⟨u125, hI⟩ := hI
  obtain ⟨u126, hI⟩ := hI
  obtain ⟨u127, hI⟩ := hI
  obtain ⟨u128, hI⟩ := hI
  obtain ⟨u129, hI⟩ := hI
  obtain ⟨u130, hI⟩ := hI
  obtain ⟨u131, hI⟩ := hI
  obtain ⟨u132, hI⟩ := hI
  obtain ⟨u133, hI⟩ := hI
  obtain ⟨u134, hI⟩ := hI
  obtain ⟨u135, hI⟩ := hI
  obtain ⟨u136, hI⟩ := hI
  obtain ⟨u137, hI⟩ := hI
  obtain ⟨u138, hI⟩ := hI
  obtain ⟨u139, hI⟩ := hI
  obtain ⟨u140, hI⟩ := hI
  obtain ⟨u141, hI⟩ := hI
  obtain ⟨u142, hI⟩ := hI
  obtain ⟨u143, hI⟩ := hI
  obtain ⟨u144, hI⟩ := hI
  obtain ⟨u145, hI⟩ := hI
  obtain ⟨u146, hI⟩ := hI
  obtain ⟨u147, hI⟩ := hI
  obtain ⟨u148, hI⟩ := hI
  obtain ⟨u149, hI⟩ := hI
  obtain ⟨u150, hI⟩ := hI
  obtain ⟨u151, hI⟩ := hI
  obtain ⟨k, ⟨hk, ⟨X, l1, l2, f, m, hFN⟩, hM, hN⟩, rfl⟩ := hI
  have HF := Lib.hid hFN
  have HM := Lib.hid hM
  have HN : Hid (New w wr) := Lib.hid hN
  clear hFN hM hN
  conv => arg 2; whnf
  by_cases hlt : k < n
  · obtain ⟨gA, oA, hl, rfl, -, -, hrg⟩ := rd_row (f := Ac.cells) (L := L) (fun _ => rfl) (by omega) (HN.out.rd HR.out) hlt
    have c0 : wr.cell? ⟨gA, oA + k * 4, none⟩ = some (.int .i64 L[k].kd) := hrg 0 _ rfl
    have c1 := hrg 1 _ rfl
    have c2 := hrg 2 _ rfl
    have c3 := hrg 3 _ rfl
    have hag := (HG.out L[k] (List.getElem_mem _)).new HN.out
    have ha2 := H2.out L[k] (List.getElem_mem _)
    generalize L[k] = ac at c0 c1 c2 c3 hag ha2
    obtain ⟨kd, wy, pk, xf⟩ := ac
    obtain ⟨xA, xn, xc, xs⟩ := xf
    dsimp only at c0 c1 c2 c3 ha2
    have HAG := Lib.hid hag
    have HA2 := Lib.hid ha2
    have hk0 : (0 : Int) ≤ (k : Int) := by omega
    have hkn : (k : Int) < (n : Int) := by omega
    clear hrg hl hag ha2
    by_cases hw1 : wy = 1
    · subst hw1
      obtain ⟨wb, hwb⟩ : ∃ wb : World, wb = wr.alloc (.cells #[.int .i64 kd, .int .i64 1, .int .u64 pk, .slice xA xn xc] 35) := ⟨_, rfl⟩
      obtain ⟨b9, hb9⟩ : ∃ b9, b9 = wr.heap.size := ⟨_, rfl⟩
      have HNb : Hid (New wr wb) := Lib.hid (by rw [hwb]; exact New.al (New.refl _) _)
      have HB9 : Hid (Blk wb b9 35 #[.int .i64 kd, .int .i64 1, .int .u64 pk, .slice xA xn xc]) := Lib.hid (by rw [hwb, hb9]; exact Blk.new _ _ _)
      go_upto_region 13 with fail
      rw [← hwb, ← hb9]
      have HZ := Lib.hid hb9
      clear hwb hb9
      have d1 : wb.cell? ⟨b9, 1, none⟩ = some (.int .i64 1) := HB9.out.cell 1
      clear c0 c1 c2 c3
      go_upto_region 14 with fail
      obtain ⟨wc, hwc⟩ : ∃ wc : World, wc = wb.alloc (.cells #[.slice none 0 0] 36) := ⟨_, rfl⟩
      obtain ⟨b10, hb10⟩ : ∃ b10, b10 = wb.heap.size := ⟨_, rfl⟩
      have HNc : Hid (New wr wc) := Lib.hid (by rw [hwc]; exact New.al HNb.out _)
      have HB9c : Hid (Blk wc b9 35 #[.int .i64 kd, .int .i64 1, .int .u64 pk, .slice xA xn xc]) := Lib.hid (by rw [hwc]; exact HB9.out.alloc _)
      have HB10 : Hid (Blk wc b10 36 #[.slice none 0 0]) := Lib.hid (by rw [hwc, hb10]; exact Blk.new _ _ _)
      have HZ10 : Hid (wr.heap.size ≤ b10) := Lib.hid (by rw [hb10]; exact HNb.out.size)
      have d1' : wc.cell? ⟨b9, 1, none⟩ = some (.int .i64 1) := HB9c.out.cell 1
      rw [← hwc, ← hb10]
      clear hwc hb10 d1 HNb HB9
      go_wp2_with fail
      refine (all_any (some ⟨g, 0, none⟩) 1 wc).mono ?_
      rintro e w2 ⟨rfl, hw2⟩
      have HNr : Hid (New wc w2) := Lib.hid (by rw [hw2]; exact New.al (New.al (New.refl _) _) _)
      have hc1 : w2.cell? ⟨wc.heap.size, 0, none⟩ = some (.pointer (some ⟨g, 0, none⟩)) := by rw [hw2]; exact ((Blk.new wc _ _).alloc _).cell 0
      have hc2 : w2.cell? ⟨wc.heap.size + 1, 0, none⟩ = some (.int .i64 1) := by rw [hw2]; exact (Blk.new' _ _ _ (by simp)).cell 0
      have HN2 : Hid (New wr w2) := Lib.hid (HNc.out.tr HNr.out)
      have HF2 := Lib.hid (HF.out.keep (HN2.out.toFr NoB) (fun _ x => x.elim))
      have HS := Lib.hid (all1_gives HF2.out.nt false wc.heap.size (wc.heap.size + 1) hc1 hc2)
      have HB92 := Lib.hid (HNr.out.blk HB9c.out)
      have HB102 := Lib.hid (HNr.out.blk HB10.out)
      have H2Z : Hid (wr.heap.size ≤ w2.heap.size) := Lib.hid HN2.out.size
      clear hw2 hc1 hc2 d1' HNc HNr HB9c HB10
      go_wp2_with fail
      refine wp_range rfl (enters_of Try.func27 (by kernel_rfl) rfl) (fun x : Fm => #[x.val]) (fun _ => rfl) HS.out (fun x W W' h hp => h.puts hp) (fun h k => h.tr k) (fun W W' hp => KpF.puts hp)
        (RI wr.heap.size b9 b10 #[.int .i64 kd, .int .i64 1, .int .u64 pk, .slice xA xn xc] w2) (fun s A B h hN => h.new hN) (fun s A B h hp => h.puts H2Z.out hp) ⟨⟨_, HB102.out, World.ownsRow_nil _ _ _ _⟩, HB92.out, Fr.refl _ _⟩ ?a11 ?assign1 ?body1 ?done1
      case assign1 =>
        intro l x W K hK
        gi_wp2
        exact hK
      case body1 =>
        rintro l pre x W hpl ⟨⟨v, hb10, hown⟩, hb9, hfr⟩ hgood
        have HB10' := Lib.hid hb10
        have HO := Lib.hid hown
        have HB9' := Lib.hid hb9
        have HFR := Lib.hid hfr
        have HGO := Lib.hid hgood
        have HPL := Lib.hid hpl
        have hz10 : wr.heap.size ≤ b10 := HZ10.out
        obtain ⟨sA, sc, rfl, hnc, hcm, -, -⟩ := own_shape hown
        have i0 : W.cell? ⟨b10, 0, none⟩ = some (.slice sA pre.length sc) := hb10.cell 0
        have f0 : W.frozen? ⟨b10, 0, none⟩ = false := hb10.frozen 0
        have hcv := run_conv (c := x.c) (w := W) hgood.1
        obtain ⟨yA, yn, yc, ys⟩ := x
        simp only [Fm.val]
        dsimp only at hcv
        obtain ⟨st, hst⟩ : ∃ st, st = strOfNums ys := ⟨_, rfl⟩
        rw [← hst] at hcv
        have HST := Lib.hid hst
        have hzW : wr.heap.size ≤ W.heap.size := Nat.le_trans H2Z.out hfr.size
        clear hb10 hown hb9 hfr hgood hst hcm
        gi_wp2_with (gi_at_builtin; refine wpListIn_app elS _ rfl (.tmp 52) (.tmp 55) rfl wr.heap.size (.slice sA pre.length sc) pre.length (strs pre) rfl (New.own (New.al (New.refl _) _) HO.out) (some ⟨W.heap.size, 0, none⟩) 1 1 [.string st] rfl (Rd.new (p := fun _ => True) W #[.string st] 9 1 1 rfl trivial) (by intro u hu; obtain rfl := List.mem_singleton.1 hu; rfl) (by unfold maxLen; omega) (by omega) (by simp; omega) ?_; intro A1 d1 w3 hO3 hF3 hA3; have hb3 := (HB10'.out.alloc (.cells #[.string st] 9)).fr hF3 (fun e => own_ne HO.out HB10'.out (by decide) e); have j0 := hb3.cell 0; have k0 := hb3.frozen 0; have HB3 := Lib.hid hb3; have HO3 := Lib.hid hO3; have HF3 : Hid (Fr (fun j => (Value.slice sA pre.length sc).ownBlock = some j) W w3) := Lib.hid (((New.al (New.refl W) _).toFr _).trans hF3); clear hO3 hF3 hA3 hb3)
        have hFW : Fr (fun j => (Value.slice sA pre.length sc).ownBlock = some j ∨ j = b10) W (w3.setCell ⟨b10, 0, none⟩ (.slice A1 (pre.length + 1) d1)) := (HF3.out.mono fun _ _ e => .inl e).setCell (fun _ => .inr rfl) _
        refine ⟨Kept.fr hFW ?_, ⟨hFW.size, ?_⟩, ⟨_, HB3.out.set 0 _, ?_⟩, HB9'.out.fr hFW ?_, HFR.out.trans (hFW.mono ?_)⟩
        · rintro j o - (e | rfl) ho
          · obtain ⟨cs, fz, hx⟩ := own_isT HO.out e
            rw [hx] at ho
            injection ho with ho
            rw [← ho]
            rfl
          · have hb := HB10'.out
            unfold Blk at hb
            rw [hb] at ho
            injection ho with ho
            rw [← ho]
            rfl
        · intro j hj
          have hjl : j < W.heap.size := by
            rcases hj with ⟨cs, fz, hx⟩ | ⟨cs, fz, hx⟩ <;> exact lt_of_block hx
          refine hFW.block j hjl ?_
          rintro (e | rfl)
          · rcases hj with hj | hj
            · exact IsT.not_own HO.out (by decide) e hj
            · exact IsT.not_own HO.out (by decide) e hj
          · rcases hj with hj | hj
            · exact IsT.not_blk HB10'.out (by decide) hj
            · exact IsT.not_blk HB10'.out (by decide) hj
        · have h := own_fr HO3.out ((Fr.refl (fun j => j = b10) w3).setCell (p := ⟨b10, 0, none⟩) (fun _ => rfl) (.slice A1 (pre.length + 1) d1)) (fun j hj e => own_ne HO3.out HB3.out (by decide) (e ▸ hj))
          have e1 : strs (pre ++ [⟨yA, yn, yc, ys⟩]) = strs pre ++ [.string st] := by
            rw [HST.out]
            simp [strs]
          rw [e1, List.length_append]
          exact h
        · rintro (e | e)
          · exact own_ne HO.out HB9'.out (by decide) e
          · exact Blk.ne_ HB9'.out HB10'.out (by decide) e
        · rintro j - (e | rfl)
          · exact (own_lt HO.out j e).1
          · exact HZ10.out
      case done1 =>
        rintro D fs W hD hfs ⟨⟨v, hb10, hown⟩, hb9, hfr⟩ hDm
        have HD := Lib.hid hD
        have HFS := Lib.hid hfs
        have HB10' := Lib.hid hb10
        have HO := Lib.hid hown
        have HB9' := Lib.hid hb9
        have HFR := Lib.hid hfr
        have HDM := Lib.hid hDm
        have d0 : W.cell? ⟨b9, 0, none⟩ = some (.int .i64 kd) := hb9.cell 0
        clear hD hfs hb10 hown hb9 hfr hDm
        dsimp only
        go_upto_block 4 with fail
        generalize (IntKind.u64.wrap kd).tmod 5 = q
        have hFrW : Fr (fun j => wr.heap.size ≤ j) wr W := (HN2.out.toFr _).trans HFR.out
        have HFW := Lib.hid (HF.out.keep hFrW (fun _ h => h))
        have HMW : Hid (Marks w.heap.size (D :: Ds) W) := Lib.hid (Marks.cons (HM.out.keep hFrW (fun _ h => h)) (fun j hj => Nat.lt_of_lt_of_le (HM.out.lt hj) (Nat.le_trans H2Z.out HD.out)) (Nat.le_trans HN.out.size (Nat.le_trans H2Z.out HD.out)) HDM.out)
        have HNW : Hid (New w W) := Lib.hid (HN.out.fr hFrW (fun j hj => Nat.le_trans HN.out.size hj))
        refine wp_sw (fun a' w' => ∃ (u4 u9 u10 u11 u12 u13 u14 u15 u36 u37 u38 u39 u40 u41 u42 u43 u44 u45 u46 u47 u48 u49 u50 u52 u53 u54 u55 u56 u57 u58 u59 u60 u61 u62 u63 u64 u65 u66 u67 u68 u69 u70 u71 u72 u73 u74 u75 u76 u77 u78 u79 u80 u81 u82 u83 u84 u85 u86 u87 u88 u89 u90 u91 u92 u93 u94 u95 u96 u97 u98 u99 u100 u101 u102 u103 u104 u105 u106 u107 u108 u109 u110 u111 u112 u113 u114 u115 u116 u117 u118 u119 u120 u121 u122 u123 u124 u125 u126 u127 u128 u129 u130 u131 u132 u133 u134 u135 u136 u137 u138 u139 u140 u141 u142 u143 u144 u145 u146 u147 u148 u149 u150 u151 : Value), FX W base g bl c0 C p k X l1 l2 w' ∧ a' = ⟨#[.int .i64 p, x1, x2, x3, u4, .pointer (some ⟨g, 0, none⟩), x6, .pointer (some ⟨bl, 0, none⟩), x8, u9, u10, u11, u12, u13, u14, u15, x16, x17, x18, x19, x20, x21, x22, x23, x24, x25, x26, x27, x28, x29, x30, x31, x32, .slice (some ⟨gA, oA, none⟩) n c, .int .i64 n, .int .i64 k, u36, u37, u38, u39, u40, u41, u42, u43, u44, u45, u46, u47, u48, u49, u50, x51, u52, u53, u54, u55, u56, u57, u58, u59, u60, u61, u62, u63, u64, u65, u66, u67, u68, u69, u70, u71, u72, u73, u74, u75, u76, u77, u78, u79, u80, u81, u82, u83, u84, u85, u86, u87, u88, u89, u90, u91, u92, u93, u94, u95, u96, u97, u98, u99, u100, u101, u102, u103, u104, u105, u106, u107, u108, u109, u110, u111, u112, u113, u114, u115, u116, u117, u118, u119, u120, u121, u122, u123, u124, u125, u126, u127, u128, u129, u130, u131, u132, u133, u134, u135, u136, u137, u138, u139, u140, u141, u142, u143, u144, u145, u146, u147, u148, u149, u150, u151], (D :: Ds).map mk1⟩) ?rest1 ?cases1
        case rest1 =>
          intro a' w' h
          obtain ⟨u4, h⟩ := h
          obtain ⟨u9, h⟩ := h
          obtain ⟨u10, h⟩ := h
          obtain ⟨u11, h⟩ := h
          obtain ⟨u12, h⟩ := h
          obtain ⟨u13, h⟩ := h
          obtain ⟨u14, h⟩ := h
          obtain ⟨u15, h⟩ := h
          obtain ⟨u36, h⟩ := h
          obtain ⟨u37, h⟩ := h
          obtain ⟨u38, h⟩ := h
          obtain ⟨u39, h⟩ := h
          obtain ⟨u40, h⟩ := h
          obtain ⟨u41, h⟩ := h
          obtain ⟨u42, h⟩ := h
          obtain ⟨u43, h⟩ := h
          obtain ⟨u44, h⟩ := h
          obtain ⟨u45, h⟩ := h
          obtain ⟨u46, h⟩ := h
          obtain ⟨u47, h⟩ := h
          obtain ⟨u48, h⟩ := h
          obtain ⟨u49, h⟩ := h
          obtain ⟨u50, h⟩ := h
          obtain ⟨u52, h⟩ := h
          obtain ⟨u53, h⟩ := h
          obtain ⟨u54, h⟩ := h
          obtain ⟨u55, h⟩ := h
          obtain ⟨u56, h⟩ := h
          obtain ⟨u57, h⟩ := h
          obtain ⟨u58, h⟩ := h
          obtain ⟨u59, h⟩ := h
          obtain ⟨u60, h⟩ := h
          obtain ⟨u61, h⟩ := h
          obtain ⟨u62, h⟩ := h
          obtain ⟨u63, h⟩ := h
          obtain ⟨u64, h⟩ := h
          obtain ⟨u65, h⟩ := h
          obtain ⟨u66, h⟩ := h
          obtain ⟨u67, h⟩ := h
          obtain ⟨u68, h⟩ := h
          obtain ⟨u69, h⟩ := h
          obtain ⟨u70, h⟩ := h
          obtain ⟨u71, h⟩ := h
          obtain ⟨u72, h⟩ := h
          obtain ⟨u73, h⟩ := h
          obtain ⟨u74, h⟩ := h
          obtain ⟨u75, h⟩ := h
          obtain ⟨u76, h⟩ := h
          obtain ⟨u77, h⟩ := h
          obtain ⟨u78, h⟩ := h
          obtain ⟨u79, h⟩ := h
          obtain ⟨u80, h⟩ := h
          obtain ⟨u81, h⟩ := h
          obtain ⟨u82, h⟩ := h
          obtain ⟨u83, h⟩ := h
          obtain ⟨u84, h⟩ := h
          obtain ⟨u85, h⟩ := h
          obtain ⟨u86, h⟩ := h
          obtain ⟨u87, h⟩ := h
          obtain ⟨u88, h⟩ := h
          obtain ⟨u89, h⟩ := h
          obtain ⟨u90, h⟩ := h
          obtain ⟨u91, h⟩ := h
          obtain ⟨u92, h⟩ := h
          obtain ⟨u93, h⟩ := h
          obtain ⟨u94, h⟩ := h
          obtain ⟨u95, h⟩ := h
          obtain ⟨u96, h⟩ := h
          obtain ⟨u97, h⟩ := h
          obtain ⟨u98, h⟩ := h
          obtain ⟨u99, h⟩ := h
          obtain ⟨u100, h⟩ := h
          obtain ⟨u101, h⟩ := h
          obtain ⟨u102, h⟩ := h
          obtain ⟨u103, h⟩ := h
          obtain ⟨u104, h⟩ := h
          obtain ⟨u105, h⟩ := h
          obtain ⟨u106, h⟩ := h
          obtain ⟨u107, h⟩ := h
          obtain ⟨u108, h⟩ := h
          obtain ⟨u109, h⟩ := h
          obtain ⟨u110, h⟩ := h
          obtain ⟨u111, h⟩ := h
          obtain ⟨u112, h⟩ := h
          obtain ⟨u113, h⟩ := h
          obtain ⟨u114, h⟩ := h
          obtain ⟨u115, h⟩ := h
          obtain ⟨u116, h⟩ := h
          obtain ⟨u117, h⟩ := h
          obtain ⟨u118, h⟩ := h
          obtain ⟨u119, h⟩ := h
          obtain ⟨u120, h⟩ := h
          obtain ⟨u121, h⟩ := h
          obtain ⟨u122, h⟩ := h
          obtain ⟨u123, h⟩ := h
          obtain ⟨u124, h⟩ := h
          obtain ⟨u125, h⟩ := h
          obtain ⟨u126, h⟩ := h
          obtain ⟨u127, h⟩ := h
          obtain ⟨u128, h⟩ := h
          obtain ⟨u129, h⟩ := h
          obtain ⟨u130, h⟩ := h
          obtain ⟨u131, h⟩ := h
          obtain ⟨u132, h⟩ := h
          obtain ⟨u133, h⟩ := h
          obtain ⟨u134, h⟩ := h
          obtain ⟨u135, h⟩ := h
          obtain ⟨u136, h⟩ := h
          obtain ⟨u137, h⟩ := h
          obtain ⟨u138, h⟩ := h
          obtain ⟨u139, h⟩ := h
          obtain ⟨u140, h⟩ := h
          obtain ⟨u141, h⟩ := h
          obtain ⟨u142, h⟩ := h
          obtain ⟨u143, h⟩ := h
          obtain ⟨u144, h⟩ := h
          obtain ⟨u145, h⟩ := h
          obtain ⟨u146, h⟩ := h
          obtain ⟨u147, h⟩ := h
          obtain ⟨u148, h⟩ := h
          obtain ⟨u149, h⟩ := h
          obtain ⟨u150, h⟩ := h
          obtain ⟨u151, h⟩ := h
          obtain ⟨hfx, rfl⟩ := h
          have HFX := Lib.hid hfx
          clear hfx
          go_wp2_with fail
          unfold FW Fmu
          refine ⟨⟨D :: Ds, _, _, _, _, _, _, _, _, _, _, _, _, _, _, _, _, _, _, _, _, _, _, _, _, _, _, _, _, _, _, _, _, _, _, _, _, _, _, _, _, _, _, _, _, _, _, _, _, _, _, _, _, _, _, _, _, _, _, _, _, _, _, _, _, _, _, _, _, _, _, _, _, _, _, _, _, _, _, _, _, _, _, _, _, _, _, _, _, _, _, _, _, _, _, _, _, _, _, _, _, _, _, _, _, _, _, _, _, _, _, _, _, _, _, _, _, _, _, _, _, _, _, _, k + 1, ⟨by omega, FL.next HFW.out HMW.out HNW.out hB HFX.out⟩, rfl⟩, by simp [intOf]; omega⟩

        case cases1 =>
          intro K' hK
          obtain ⟨sA, sc, rfl, hnc, hcm, -, -⟩ := own_shape HO.out
          have hlen : (sel false l1 l2).L.length = fs.length := by
            have := congrArg List.length HFS.out
            simpa using this.symm
          have HSW : SwIn W base g bl c0 C p k X l1 l2 f m false 1 pk kd b9 b10 fs.length sc wr.heap.size sA ⟨xA, xn, xc, xs⟩ := by
            refine ⟨HFW.out, by omega, rfl, HAG.out.p0, HAG.out.p1, HB9'.out, HB10'.out, hlen, hnc, ?_, fun j hj => HF.out.old hj, ?_, HZ10.out, ?_, HAG.out.by_, HA2.out⟩
            · rw [← strs_eq HFS.out]
              exact (Rd.own HO.out rfl).imp (fun j hj => (own_lt HO.out j hj).1)
            · rw [HZ.out]; exact Nat.le_refl _
            · exact HAG.out.rd.fr hFrW (fun j hj h => by omega)
          have hyy : 0 < fs.length → ∃ y, (sel false l1 l2).L[pk.toNat % fs.length]? = some y := fun h0 => by
            have hlt : pk.toNat % fs.length < (sel false l1 l2).L.length := by rw [hlen]; exact Nat.mod_lt _ h0
            exact ⟨_, List.getElem?_eq_getElem hlt⟩
          by_cases hq2 : q = 2
          · subst hq2
            by_cases h0 : fs.length = 0
            · exact fs_take0 HSW h0 (fun _ _ _ _ _ _ _ _ _ _ _ _ _ _ _ _ _ _ _ _ _ _ _ _ _ _ _ _ _ _ _ _ _ _ _ _ _ _ _ _ _ _ _ _ _ _ _ _ _ _ _ _ _ _ _ _ _ _ _ _ _ _ _ _ _ _ _ _ _ _ _ _ _ _ _ _ _ _ _ _ _ _ _ _ _ _ _ _ _ _ _ _ _ _ _ w' hfx => hK _ _ ⟨_, _, _, _, _, _, _, _, _, _, _, _, _, _, _, _, _, _, _, _, _, _, _, _, _, _, _, _, _, _, _, _, _, _, _, _, _, _, _, _, _, _, _, _, _, _, _, _, _, _, _, _, _, _, _, _, _, _, _, _, _, _, _, _, _, _, _, _, _, _, _, _, _, _, _, _, _, _, _, _, _, _, _, _, _, _, _, _, _, _, _, _, _, _, _, _, _, _, _, _, _, _, _, _, _, _, _, _, _, _, _, _, _, _, _, _, _, _, _, _, _, _, _, hfx, rfl⟩)
            · exact fs_take1 HSW (by omega) (fun _ _ _ _ _ _ _ _ _ _ _ _ _ _ _ _ _ _ _ _ _ _ _ _ _ _ _ _ _ _ _ _ _ _ _ _ _ _ _ _ _ _ _ _ _ _ _ _ _ _ _ _ _ _ _ _ _ _ _ _ _ _ _ _ _ _ _ _ _ _ _ _ _ _ _ _ _ _ _ _ _ _ _ _ _ _ _ _ _ _ _ _ _ _ _ w' hfx => hK _ _ ⟨_, _, _, _, _, _, _, _, _, _, _, _, _, _, _, _, _, _, _, _, _, _, _, _, _, _, _, _, _, _, _, _, _, _, _, _, _, _, _, _, _, _, _, _, _, _, _, _, _, _, _, _, _, _, _, _, _, _, _, _, _, _, _, _, _, _, _, _, _, _, _, _, _, _, _, _, _, _, _, _, _, _, _, _, _, _, _, _, _, _, _, _, _, _, _, _, _, _, _, _, _, _, _, _, _, _, _, _, _, _, _, _, _, _, _, _, _, _, _, _, _, _, _, hfx, rfl⟩)
          by_cases hq3 : q = 3
          · subst hq3
            by_cases h0 : fs.length = 0
            · exact fs_lose0 HSW h0 (fun _ _ _ _ _ _ _ _ _ _ _ _ _ _ _ _ _ _ _ _ _ _ _ _ _ _ _ _ _ _ _ _ _ _ _ _ _ _ _ _ _ _ _ _ _ _ _ _ _ _ _ _ _ _ _ _ _ _ _ _ _ _ _ _ _ _ _ _ _ _ _ _ _ _ _ _ _ _ _ _ _ _ _ _ _ _ _ _ _ _ _ _ _ _ _ w' hfx => hK _ _ ⟨_, _, _, _, _, _, _, _, _, _, _, _, _, _, _, _, _, _, _, _, _, _, _, _, _, _, _, _, _, _, _, _, _, _, _, _, _, _, _, _, _, _, _, _, _, _, _, _, _, _, _, _, _, _, _, _, _, _, _, _, _, _, _, _, _, _, _, _, _, _, _, _, _, _, _, _, _, _, _, _, _, _, _, _, _, _, _, _, _, _, _, _, _, _, _, _, _, _, _, _, _, _, _, _, _, _, _, _, _, _, _, _, _, _, _, _, _, _, _, _, _, _, _, hfx, rfl⟩)
            · obtain ⟨y, hy⟩ := hyy (by omega)
              by_cases hsp : (sel false l1 l2).lost y.xs < p - 1
              · exact fs_lose1 HSW (by omega) y hy hsp (fun _ _ _ _ _ _ _ _ _ _ _ _ _ _ _ _ _ _ _ _ _ _ _ _ _ _ _ _ _ _ _ _ _ _ _ _ _ _ _ _ _ _ _ _ _ _ _ _ _ _ _ _ _ _ _ _ _ _ _ _ _ _ _ _ _ _ _ _ _ _ _ _ _ _ _ _ _ _ _ _ _ _ _ _ _ _ _ _ _ _ _ _ _ _ _ w' hfx => hK _ _ ⟨_, _, _, _, _, _, _, _, _, _, _, _, _, _, _, _, _, _, _, _, _, _, _, _, _, _, _, _, _, _, _, _, _, _, _, _, _, _, _, _, _, _, _, _, _, _, _, _, _, _, _, _, _, _, _, _, _, _, _, _, _, _, _, _, _, _, _, _, _, _, _, _, _, _, _, _, _, _, _, _, _, _, _, _, _, _, _, _, _, _, _, _, _, _, _, _, _, _, _, _, _, _, _, _, _, _, _, _, _, _, _, _, _, _, _, _, _, _, _, _, _, _, _, hfx, rfl⟩)
              · exact fs_lose2 HSW (by omega) y hy (by omega) (fun _ _ _ _ _ _ _ _ _ _ _ _ _ _ _ _ _ _ _ _ _ _ _ _ _ _ _ _ _ _ _ _ _ _ _ _ _ _ _ _ _ _ _ _ _ _ _ _ _ _ _ _ _ _ _ _ _ _ _ _ _ _ _ _ _ _ _ _ _ _ _ _ _ _ _ _ _ _ _ _ _ _ _ _ _ _ _ _ _ _ _ _ _ _ _ w' hfx => hK _ _ ⟨_, _, _, _, _, _, _, _, _, _, _, _, _, _, _, _, _, _, _, _, _, _, _, _, _, _, _, _, _, _, _, _, _, _, _, _, _, _, _, _, _, _, _, _, _, _, _, _, _, _, _, _, _, _, _, _, _, _, _, _, _, _, _, _, _, _, _, _, _, _, _, _, _, _, _, _, _, _, _, _, _, _, _, _, _, _, _, _, _, _, _, _, _, _, _, _, _, _, _, _, _, _, _, _, _, _, _, _, _, _, _, _, _, _, _, _, _, _, _, _, _, _, _, hfx, rfl⟩)
          by_cases hq4 : q = 4
          · subst hq4
            by_cases h0 : fs.length = 0
            · exact fs_twice0 HSW h0 (fun _ _ _ _ _ _ _ _ _ _ _ _ _ _ _ _ _ _ _ _ _ _ _ _ _ _ _ _ _ _ _ _ _ _ _ _ _ _ _ _ _ _ _ _ _ _ _ _ _ _ _ _ _ _ _ _ _ _ _ _ _ _ _ _ _ _ _ _ _ _ _ _ _ _ _ _ _ _ _ _ _ _ _ _ _ _ _ _ _ _ _ _ _ _ _ w' hfx => hK _ _ ⟨_, _, _, _, _, _, _, _, _, _, _, _, _, _, _, _, _, _, _, _, _, _, _, _, _, _, _, _, _, _, _, _, _, _, _, _, _, _, _, _, _, _, _, _, _, _, _, _, _, _, _, _, _, _, _, _, _, _, _, _, _, _, _, _, _, _, _, _, _, _, _, _, _, _, _, _, _, _, _, _, _, _, _, _, _, _, _, _, _, _, _, _, _, _, _, _, _, _, _, _, _, _, _, _, _, _, _, _, _, _, _, _, _, _, _, _, _, _, _, _, _, _, _, hfx, rfl⟩)
            · obtain ⟨y, hy⟩ := hyy (by omega)
              exact fs_twice1 HSW y hy (fun _ _ _ _ _ _ _ _ _ _ _ _ _ _ _ _ _ _ _ _ _ _ _ _ _ _ _ _ _ _ _ _ _ _ _ _ _ _ _ _ _ _ _ _ _ _ _ _ _ _ _ _ _ _ _ _ _ _ _ _ _ _ _ _ _ _ _ _ _ _ _ _ _ _ _ _ _ _ _ _ _ _ _ _ _ _ _ _ _ _ _ _ _ _ _ w' hfx => hK _ _ ⟨_, _, _, _, _, _, _, _, _, _, _, _, _, _, _, _, _, _, _, _, _, _, _, _, _, _, _, _, _, _, _, _, _, _, _, _, _, _, _, _, _, _, _, _, _, _, _, _, _, _, _, _, _, _, _, _, _, _, _, _, _, _, _, _, _, _, _, _, _, _, _, _, _, _, _, _, _, _, _, _, _, _, _, _, _, _, _, _, _, _, _, _, _, _, _, _, _, _, _, _, _, _, _, _, _, _, _, _, _, _, _, _, _, _, _, _, _, _, _, _, _, _, _, hfx, rfl⟩)
          exact fs_send HSW q (by simpa using hq2) (by simpa using hq3) (by simpa using hq4) (fun _ _ _ _ _ _ _ _ _ _ _ _ _ _ _ _ _ _ _ _ _ _ _ _ _ _ _ _ _ _ _ _ _ _ _ _ _ _ _ _ _ _ _ _ _ _ _ _ _ _ _ _ _ _ _ _ _ _ _ _ _ _ _ _ _ _ _ _ _ _ _ _ _ _ _ _ _ _ _ _ _ _ _ _ _ _ _ _ _ _ _ _ _ _ _ w' hfx => hK _ _ ⟨_, _, _, _, _, _, _, _, _, _, _, _, _, _, _, _, _, _, _, _, _, _, _, _, _, _, _, _, _, _, _, _, _, _, _, _, _, _, _, _, _, _, _, _, _, _, _, _, _, _, _, _, _, _, _, _, _, _, _, _, _, _, _, _, _, _, _, _, _, _, _, _, _, _, _, _, _, _, _, _, _, _, _, _, _, _, _, _, _, _, _, _, _, _, _, _, _, _, _, _, _, _, _, _, _, _, _, _, _, _, _, _, _, _, _, _, _, _, _, _, _, _, _, hfx, rfl⟩)
    · by_cases hw2 : wy = 2
      · subst hw2
        obtain ⟨wb, hwb⟩ : ∃ wb : World, wb = wr.alloc (.cells #[.int .i64 kd, .int .i64 2, .int .u64 pk, .slice xA xn xc] 35) := ⟨_, rfl⟩
        obtain ⟨b9, hb9⟩ : ∃ b9, b9 = wr.heap.size := ⟨_, rfl⟩
        have HNb : Hid (New wr wb) := Lib.hid (by rw [hwb]; exact New.al (New.refl _) _)
        have HB9 : Hid (Blk wb b9 35 #[.int .i64 kd, .int .i64 2, .int .u64 pk, .slice xA xn xc]) := Lib.hid (by rw [hwb, hb9]; exact Blk.new _ _ _)
        go_upto_region 13 with fail
        rw [← hwb, ← hb9]
        have HZ := Lib.hid hb9
        clear hwb hb9
        have d1 : wb.cell? ⟨b9, 1, none⟩ = some (.int .i64 2) := HB9.out.cell 1
        clear c0 c1 c2 c3
        go_upto_region 14 with fail
        obtain ⟨wc, hwc⟩ : ∃ wc : World, wc = wb.alloc (.cells #[.slice none 0 0] 36) := ⟨_, rfl⟩
        obtain ⟨b10, hb10⟩ : ∃ b10, b10 = wb.heap.size := ⟨_, rfl⟩
        have HNc : Hid (New wr wc) := Lib.hid (by rw [hwc]; exact New.al HNb.out _)
        have HB9c : Hid (Blk wc b9 35 #[.int .i64 kd, .int .i64 2, .int .u64 pk, .slice xA xn xc]) := Lib.hid (by rw [hwc]; exact HB9.out.alloc _)
        have HB10 : Hid (Blk wc b10 36 #[.slice none 0 0]) := Lib.hid (by rw [hwc, hb10]; exact Blk.new _ _ _)
        have HZ10 : Hid (wr.heap.size ≤ b10) := Lib.hid (by rw [hb10]; exact HNb.out.size)
        have d1' : wc.cell? ⟨b9, 1, none⟩ = some (.int .i64 2) := HB9c.out.cell 1
        rw [← hwc, ← hb10]
        clear hwc hb10 d1 HNb HB9
        go_wp2_with fail
        refine (all_any (some ⟨g, 0, none⟩) 2 wc).mono ?_
        rintro e w2 ⟨rfl, hw2⟩
        have HNr : Hid (New wc w2) := Lib.hid (by rw [hw2]; exact New.al (New.al (New.refl _) _) _)
        have hc1 : w2.cell? ⟨wc.heap.size, 0, none⟩ = some (.pointer (some ⟨g, 0, none⟩)) := by rw [hw2]; exact ((Blk.new wc _ _).alloc _).cell 0
        have hc2 : w2.cell? ⟨wc.heap.size + 1, 0, none⟩ = some (.int .i64 2) := by rw [hw2]; exact (Blk.new' _ _ _ (by simp)).cell 0
        have HN2 : Hid (New wr w2) := Lib.hid (HNc.out.tr HNr.out)
        have HF2 := Lib.hid (HF.out.keep (HN2.out.toFr NoB) (fun _ x => x.elim))
        have HS := Lib.hid (all1_gives HF2.out.nt true wc.heap.size (wc.heap.size + 1) hc1 hc2)
        have HB92 := Lib.hid (HNr.out.blk HB9c.out)
        have HB102 := Lib.hid (HNr.out.blk HB10.out)
        have H2Z : Hid (wr.heap.size ≤ w2.heap.size) := Lib.hid HN2.out.size
        clear hw2 hc1 hc2 d1' HNc HNr HB9c HB10
        go_wp2_with fail
        refine wp_range rfl (enters_of Try.func27 (by kernel_rfl) rfl) (fun x : Fm => #[x.val]) (fun _ => rfl) HS.out (fun x W W' h hp => h.puts hp) (fun h k => h.tr k) (fun W W' hp => KpF.puts hp)
          (RI wr.heap.size b9 b10 #[.int .i64 kd, .int .i64 2, .int .u64 pk, .slice xA xn xc] w2) (fun s A B h hN => h.new hN) (fun s A B h hp => h.puts H2Z.out hp) ⟨⟨_, HB102.out, World.ownsRow_nil _ _ _ _⟩, HB92.out, Fr.refl _ _⟩ ?a12 ?assign2 ?body2 ?done2
        case assign2 =>
          intro l x W K hK
          gi_wp2
          exact hK
        case body2 =>
          rintro l pre x W hpl ⟨⟨v, hb10, hown⟩, hb9, hfr⟩ hgood
          have HB10' := Lib.hid hb10
          have HO := Lib.hid hown
          have HB9' := Lib.hid hb9
          have HFR := Lib.hid hfr
          have HGO := Lib.hid hgood
          have HPL := Lib.hid hpl
          have hz10 : wr.heap.size ≤ b10 := HZ10.out
          obtain ⟨sA, sc, rfl, hnc, hcm, -, -⟩ := own_shape hown
          have i0 : W.cell? ⟨b10, 0, none⟩ = some (.slice sA pre.length sc) := hb10.cell 0
          have f0 : W.frozen? ⟨b10, 0, none⟩ = false := hb10.frozen 0
          have hcv := run_conv (c := x.c) (w := W) hgood.1
          obtain ⟨yA, yn, yc, ys⟩ := x
          simp only [Fm.val]
          dsimp only at hcv
          obtain ⟨st, hst⟩ : ∃ st, st = strOfNums ys := ⟨_, rfl⟩
          rw [← hst] at hcv
          have HST := Lib.hid hst
          have hzW : wr.heap.size ≤ W.heap.size := Nat.le_trans H2Z.out hfr.size
          clear hb10 hown hb9 hfr hgood hst hcm
          gi_wp2_with (gi_at_builtin; refine wpListIn_app elS _ rfl (.tmp 52) (.tmp 55) rfl wr.heap.size (.slice sA pre.length sc) pre.length (strs pre) rfl (New.own (New.al (New.refl _) _) HO.out) (some ⟨W.heap.size, 0, none⟩) 1 1 [.string st] rfl (Rd.new (p := fun _ => True) W #[.string st] 9 1 1 rfl trivial) (by intro u hu; obtain rfl := List.mem_singleton.1 hu; rfl) (by unfold maxLen; omega) (by omega) (by simp; omega) ?_; intro A1 d1 w3 hO3 hF3 hA3; have hb3 := (HB10'.out.alloc (.cells #[.string st] 9)).fr hF3 (fun e => own_ne HO.out HB10'.out (by decide) e); have j0 := hb3.cell 0; have k0 := hb3.frozen 0; have HB3 := Lib.hid hb3; have HO3 := Lib.hid hO3; have HF3 : Hid (Fr (fun j => (Value.slice sA pre.length sc).ownBlock = some j) W w3) := Lib.hid (((New.al (New.refl W) _).toFr _).trans hF3); clear hO3 hF3 hA3 hb3)
          have hFW : Fr (fun j => (Value.slice sA pre.length sc).ownBlock = some j ∨ j = b10) W (w3.setCell ⟨b10, 0, none⟩ (.slice A1 (pre.length + 1) d1)) := (HF3.out.mono fun _ _ e => .inl e).setCell (fun _ => .inr rfl) _
          refine ⟨Kept.fr hFW ?_, ⟨hFW.size, ?_⟩, ⟨_, HB3.out.set 0 _, ?_⟩, HB9'.out.fr hFW ?_, HFR.out.trans (hFW.mono ?_)⟩
          · rintro j o - (e | rfl) ho
            · obtain ⟨cs, fz, hx⟩ := own_isT HO.out e
              rw [hx] at ho
              injection ho with ho
              rw [← ho]
              rfl
            · have hb := HB10'.out
              unfold Blk at hb
              rw [hb] at ho
              injection ho with ho
              rw [← ho]
              rfl
          · intro j hj
            have hjl : j < W.heap.size := by
              rcases hj with ⟨cs, fz, hx⟩ | ⟨cs, fz, hx⟩ <;> exact lt_of_block hx
            refine hFW.block j hjl ?_
            rintro (e | rfl)
            · rcases hj with hj | hj
              · exact IsT.not_own HO.out (by decide) e hj
              · exact IsT.not_own HO.out (by decide) e hj
            · rcases hj with hj | hj
              · exact IsT.not_blk HB10'.out (by decide) hj
              · exact IsT.not_blk HB10'.out (by decide) hj
          · have h := own_fr HO3.out ((Fr.refl (fun j => j = b10) w3).setCell (p := ⟨b10, 0, none⟩) (fun _ => rfl) (.slice A1 (pre.length + 1) d1)) (fun j hj e => own_ne HO3.out HB3.out (by decide) (e ▸ hj))
            have e1 : strs (pre ++ [⟨yA, yn, yc, ys⟩]) = strs pre ++ [.string st] := by
              rw [HST.out]
              simp [strs]
            rw [e1, List.length_append]
            exact h
          · rintro (e | e)
            · exact own_ne HO.out HB9'.out (by decide) e
            · exact Blk.ne_ HB9'.out HB10'.out (by decide) e
          · rintro j - (e | rfl)
            · exact (own_lt HO.out j e).1
            · exact HZ10.out
        case done2 =>
          rintro D fs W hD hfs ⟨⟨v, hb10, hown⟩, hb9, hfr⟩ hDm
          have HD := Lib.hid hD
          have HFS := Lib.hid hfs
          have HB10' := Lib.hid hb10
          have HO := Lib.hid hown
          have HB9' := Lib.hid hb9
          have HFR := Lib.hid hfr
          have HDM := Lib.hid hDm
          have d0 : W.cell? ⟨b9, 0, none⟩ = some (.int .i64 kd) := hb9.cell 0
          clear hD hfs hb10 hown hb9 hfr hDm
          dsimp only
          go_upto_block 4 with fail
          generalize (IntKind.u64.wrap kd).tmod 5 = q
          have hFrW : Fr (fun j => wr.heap.size ≤ j) wr W := (HN2.out.toFr _).trans HFR.out
          have HFW := Lib.hid (HF.out.keep hFrW (fun _ h => h))
          have HMW : Hid (Marks w.heap.size (D :: Ds) W) := Lib.hid (Marks.cons (HM.out.keep hFrW (fun _ h => h)) (fun j hj => Nat.lt_of_lt_of_le (HM.out.lt hj) (Nat.le_trans H2Z.out HD.out)) (Nat.le_trans HN.out.size (Nat.le_trans H2Z.out HD.out)) HDM.out)
          have HNW : Hid (New w W) := Lib.hid (HN.out.fr hFrW (fun j hj => Nat.le_trans HN.out.size hj))
          refine wp_sw (fun a' w' => ∃ (u4 u9 u10 u11 u12 u13 u14 u15 u36 u37 u38 u39 u40 u41 u42 u43 u44 u45 u46 u47 u48 u49 u50 u52 u53 u54 u55 u56 u57 u58 u59 u60 u61 u62 u63 u64 u65 u66 u67 u68 u69 u70 u71 u72 u73 u74 u75 u76 u77 u78 u79 u80 u81 u82 u83 u84 u85 u86 u87 u88 u89 u90 u91 u92 u93 u94 u95 u96 u97 u98 u99 u100 u101 u102 u103 u104 u105 u106 u107 u108 u109 u110 u111 u112 u113 u114 u115 u116 u117 u118 u119 u120 u121 u122 u123 u124 u125 u126 u127 u128 u129 u130 u131 u132 u133 u134 u135 u136 u137 u138 u139 u140 u141 u142 u143 u144 u145 u146 u147 u148 u149 u150 u151 : Value), FX W base g bl c0 C p k X l1 l2 w' ∧ a' = ⟨#[.int .i64 p, x1, x2, x3, u4, .pointer (some ⟨g, 0, none⟩), x6, .pointer (some ⟨bl, 0, none⟩), x8, u9, u10, u11, u12, u13, u14, u15, x16, x17, x18, x19, x20, x21, x22, x23, x24, x25, x26, x27, x28, x29, x30, x31, x32, .slice (some ⟨gA, oA, none⟩) n c, .int .i64 n, .int .i64 k, u36, u37, u38, u39, u40, u41, u42, u43, u44, u45, u46, u47, u48, u49, u50, x51, u52, u53, u54, u55, u56, u57, u58, u59, u60, u61, u62, u63, u64, u65, u66, u67, u68, u69, u70, u71, u72, u73, u74, u75, u76, u77, u78, u79, u80, u81, u82, u83, u84, u85, u86, u87, u88, u89, u90, u91, u92, u93, u94, u95, u96, u97, u98, u99, u100, u101, u102, u103, u104, u105, u106, u107, u108, u109, u110, u111, u112, u113, u114, u115, u116, u117, u118, u119, u120, u121, u122, u123, u124, u125, u126, u127, u128, u129, u130, u131, u132, u133, u134, u135, u136, u137, u138, u139, u140, u141, u142, u143, u144, u145, u146, u147, u148, u149, u150, u151], (D :: Ds).map mk1⟩) ?rest2 ?cases2
          case rest2 =>
            intro a' w' h
            obtain ⟨u4, h⟩ := h
            obtain ⟨u9, h⟩ := h
            obtain ⟨u10, h⟩ := h
            obtain ⟨u11, h⟩ := h
            obtain ⟨u12, h⟩ := h
            obtain ⟨u13, h⟩ := h
            obtain ⟨u14, h⟩ := h
            obtain ⟨u15, h⟩ := h
            obtain ⟨u36, h⟩ := h
            obtain ⟨u37, h⟩ := h
            obtain ⟨u38, h⟩ := h
            obtain ⟨u39, h⟩ := h
            obtain ⟨u40, h⟩ := h
            obtain ⟨u41, h⟩ := h
            obtain ⟨u42, h⟩ := h
            obtain ⟨u43, h⟩ := h
            obtain ⟨u44, h⟩ := h
            obtain ⟨u45, h⟩ := h
            obtain ⟨u46, h⟩ := h
            obtain ⟨u47, h⟩ := h
            obtain ⟨u48, h⟩ := h
            obtain ⟨u49, h⟩ := h
            obtain ⟨u50, h⟩ := h
            obtain ⟨u52, h⟩ := h
            obtain ⟨u53, h⟩ := h
            obtain ⟨u54, h⟩ := h
            obtain ⟨u55, h⟩ := h
            obtain ⟨u56, h⟩ := h
            obtain ⟨u57, h⟩ := h
            obtain ⟨u58, h⟩ := h
            obtain ⟨u59, h⟩ := h
            obtain ⟨u60, h⟩ := h
            obtain ⟨u61, h⟩ := h
            obtain ⟨u62, h⟩ := h
            obtain ⟨u63, h⟩ := h
            obtain ⟨u64, h⟩ := h
            obtain ⟨u65, h⟩ := h
            obtain ⟨u66, h⟩ := h
            obtain ⟨u67, h⟩ := h
            obtain ⟨u68, h⟩ := h
            obtain ⟨u69, h⟩ := h
            obtain ⟨u70, h⟩ := h
            obtain ⟨u71, h⟩ := h
            obtain ⟨u72, h⟩ := h
            obtain ⟨u73, h⟩ := h
            obtain ⟨u74, h⟩ := h
            obtain ⟨u75, h⟩ := h
            obtain ⟨u76, h⟩ := h
            obtain ⟨u77, h⟩ := h
            obtain ⟨u78, h⟩ := h
            obtain ⟨u79, h⟩ := h
            obtain ⟨u80, h⟩ := h
            obtain ⟨u81, h⟩ := h
            obtain ⟨u82, h⟩ := h
            obtain ⟨u83, h⟩ := h
            obtain ⟨u84, h⟩ := h
            obtain ⟨u85, h⟩ := h
            obtain ⟨u86, h⟩ := h
            obtain ⟨u87, h⟩ := h
            obtain ⟨u88, h⟩ := h
            obtain ⟨u89, h⟩ := h
            obtain ⟨u90, h⟩ := h
            obtain ⟨u91, h⟩ := h
            obtain ⟨u92, h⟩ := h
            obtain ⟨u93, h⟩ := h
            obtain ⟨u94, h⟩ := h
            obtain ⟨u95, h⟩ := h
            obtain ⟨u96, h⟩ := h
            obtain ⟨u97, h⟩ := h
            obtain ⟨u98, h⟩ := h
            obtain ⟨u99, h⟩ := h
            obtain ⟨u100, h⟩ := h
            obtain ⟨u101, h⟩ := h
            obtain ⟨u102, h⟩ := h
            obtain ⟨u103, h⟩ := h
            obtain ⟨u104, h⟩ := h
            obtain ⟨u105, h⟩ := h
            obtain ⟨u106, h⟩ := h
            obtain ⟨u107, h⟩ := h
            obtain ⟨u108, h⟩ := h
            obtain ⟨u109, h⟩ := h
            obtain ⟨u110, h⟩ := h
            obtain ⟨u111, h⟩ := h
            obtain ⟨u112, h⟩ := h
            obtain ⟨u113, h⟩ := h
            obtain ⟨u114, h⟩ := h
            obtain ⟨u115, h⟩ := h
            obtain ⟨u116, h⟩ := h
            obtain ⟨u117, h⟩ := h
            obtain ⟨u118, h⟩ := h
            obtain ⟨u119, h⟩ := h
            obtain ⟨u120, h⟩ := h
            obtain ⟨u121, h⟩ := h
            obtain ⟨u122, h⟩ := h
            obtain ⟨u123, h⟩ := h
            obtain ⟨u124, h⟩ := h
            obtain ⟨u125, h⟩ := h
            obtain ⟨u126, h⟩ := h
            obtain ⟨u127, h⟩ := h
            obtain ⟨u128, h⟩ := h
            obtain ⟨u129, h⟩ := h
            obtain ⟨u130, h⟩ := h
            obtain ⟨u131, h⟩ := h
            obtain ⟨u132, h⟩ := h
            obtain ⟨u133, h⟩ := h
            obtain ⟨u134, h⟩ := h
            obtain ⟨u135, h⟩ := h
            obtain ⟨u136, h⟩ := h
            obtain ⟨u137, h⟩ := h
            obtain ⟨u138, h⟩ := h
            obtain ⟨u139, h⟩ := h
            obtain ⟨u140, h⟩ := h
            obtain ⟨u141, h⟩ := h
            obtain ⟨u142, h⟩ := h
            obtain ⟨u143, h⟩ := h
            obtain ⟨u144, h⟩ := h
            obtain ⟨u145, h⟩ := h
            obtain ⟨u146, h⟩ := h
            obtain ⟨u147, h⟩ := h
            obtain ⟨u148, h⟩ := h
            obtain ⟨u149, h⟩ := h
            obtain ⟨u150, h⟩ := h
            obtain ⟨u151, h⟩ := h
            obtain ⟨hfx, rfl⟩ := h
            have HFX := Lib.hid hfx
            clear hfx
            go_wp2_with fail
            unfold FW Fmu
            refine ⟨⟨D :: Ds, _, _, _, _, _, _, _, _, _, _, _, _, _, _, _, _, _, _, _, _, _, _, _, _, _, _, _, _, _, _, _, _, _, _, _, _, _, _, _, _, _, _, _, _, _, _, _, _, _, _, _, _, _, _, _, _, _, _, _, _, _, _, _, _, _, _, _, _, _, _, _, _, _, _, _, _, _, _, _, _, _, _, _, _, _, _, _, _, _, _, _, _, _, _, _, _, _, _, _, _, _, _, _, _, _, _, _, _, _, _, _, _, _, _, _, _, _, _, _, _, _, _, _, k + 1, ⟨by omega, FL.next HFW.out HMW.out HNW.out hB HFX.out⟩, rfl⟩, by simp [intOf]; omega⟩

          case cases2 =>
            intro K' hK
            obtain ⟨sA, sc, rfl, hnc, hcm, -, -⟩ := own_shape HO.out
            have hlen : (sel true l1 l2).L.length = fs.length := by
              have := congrArg List.length HFS.out
              simpa using this.symm
            have HSW : SwIn W base g bl c0 C p k X l1 l2 f m true 2 pk kd b9 b10 fs.length sc wr.heap.size sA ⟨xA, xn, xc, xs⟩ := by
              refine ⟨HFW.out, by omega, rfl, HAG.out.p0, HAG.out.p1, HB9'.out, HB10'.out, hlen, hnc, ?_, fun j hj => HF.out.old hj, ?_, HZ10.out, ?_, HAG.out.by_, HA2.out⟩
              · rw [← strs_eq HFS.out]
                exact (Rd.own HO.out rfl).imp (fun j hj => (own_lt HO.out j hj).1)
              · rw [HZ.out]; exact Nat.le_refl _
              · exact HAG.out.rd.fr hFrW (fun j hj h => by omega)
            have hyy : 0 < fs.length → ∃ y, (sel true l1 l2).L[pk.toNat % fs.length]? = some y := fun h0 => by
              have hlt : pk.toNat % fs.length < (sel true l1 l2).L.length := by rw [hlen]; exact Nat.mod_lt _ h0
              exact ⟨_, List.getElem?_eq_getElem hlt⟩
            by_cases hq2 : q = 2
            · subst hq2
              by_cases h0 : fs.length = 0
              · exact fs_take0 HSW h0 (fun _ _ _ _ _ _ _ _ _ _ _ _ _ _ _ _ _ _ _ _ _ _ _ _ _ _ _ _ _ _ _ _ _ _ _ _ _ _ _ _ _ _ _ _ _ _ _ _ _ _ _ _ _ _ _ _ _ _ _ _ _ _ _ _ _ _ _ _ _ _ _ _ _ _ _ _ _ _ _ _ _ _ _ _ _ _ _ _ _ _ _ _ _ _ _ w' hfx => hK _ _ ⟨_, _, _, _, _, _, _, _, _, _, _, _, _, _, _, _, _, _, _, _, _, _, _, _, _, _, _, _, _, _, _, _, _, _, _, _, _, _, _, _, _, _, _, _, _, _, _, _, _, _, _, _, _, _, _, _, _, _, _, _, _, _, _, _, _, _, _, _, _, _, _, _, _, _, _, _, _, _, _, _, _, _, _, _, _, _, _, _, _, _, _, _, _, _, _, _, _, _, _, _, _, _, _, _, _, _, _, _, _, _, _, _, _, _, _, _, _, _, _, _, _, _, _, hfx, rfl⟩)
              · exact fs_take1 HSW (by omega) (fun _ _ _ _ _ _ _ _ _ _ _ _ _ _ _ _ _ _ _ _ _ _ _ _ _ _ _ _ _ _ _ _ _ _ _ _ _ _ _ _ _ _ _ _ _ _ _ _ _ _ _ _ _ _ _ _ _ _ _ _ _ _ _ _ _ _ _ _ _ _ _ _ _ _ _ _ _ _ _ _ _ _ _ _ _ _ _ _ _ _ _ _ _ _ _ w' hfx => hK _ _ ⟨_, _, _, _, _, _, _, _, _, _, _, _, _, _, _, _, _, _, _, _, _, _, _, _, _, _, _, _, _, _, _, _, _, _, _, _, _, _, _, _, _, _, _, _, _, _, _, _, _, _, _, _, _, _, _, _, _, _, _, _, _, _, _, _, _, _, _, _, _, _, _, _, _, _, _, _, _, _, _, _, _, _, _, _, _, _, _, _, _, _, _, _, _, _, _, _, _, _, _, _, _, _, _, _, _, _, _, _, _, _, _, _, _, _, _, _, _, _, _, _, _, _, _, hfx, rfl⟩)
            by_cases hq3 : q = 3
            · subst hq3
              by_cases h0 : fs.length = 0
              · exact fs_lose0 HSW h0 (fun _ _ _ _ _ _ _ _ _ _ _ _ _ _ _ _ _ _ _ _ _ _ _ _ _ _ _ _ _ _ _ _ _ _ _ _ _ _ _ _ _ _ _ _ _ _ _ _ _ _ _ _ _ _ _ _ _ _ _ _ _ _ _ _ _ _ _ _ _ _ _ _ _ _ _ _ _ _ _ _ _ _ _ _ _ _ _ _ _ _ _ _ _ _ _ w' hfx => hK _ _ ⟨_, _, _, _, _, _, _, _, _, _, _, _, _, _, _, _, _, _, _, _, _, _, _, _, _, _, _, _, _, _, _, _, _, _, _, _, _, _, _, _, _, _, _, _, _, _, _, _, _, _, _, _, _, _, _, _, _, _, _, _, _, _, _, _, _, _, _, _, _, _, _, _, _, _, _, _, _, _, _, _, _, _, _, _, _, _, _, _, _, _, _, _, _, _, _, _, _, _, _, _, _, _, _, _, _, _, _, _, _, _, _, _, _, _, _, _, _, _, _, _, _, _, _, hfx, rfl⟩)
              · obtain ⟨y, hy⟩ := hyy (by omega)
                by_cases hsp : (sel true l1 l2).lost y.xs < p - 1
                · exact fs_lose1 HSW (by omega) y hy hsp (fun _ _ _ _ _ _ _ _ _ _ _ _ _ _ _ _ _ _ _ _ _ _ _ _ _ _ _ _ _ _ _ _ _ _ _ _ _ _ _ _ _ _ _ _ _ _ _ _ _ _ _ _ _ _ _ _ _ _ _ _ _ _ _ _ _ _ _ _ _ _ _ _ _ _ _ _ _ _ _ _ _ _ _ _ _ _ _ _ _ _ _ _ _ _ _ w' hfx => hK _ _ ⟨_, _, _, _, _, _, _, _, _, _, _, _, _, _, _, _, _, _, _, _, _, _, _, _, _, _, _, _, _, _, _, _, _, _, _, _, _, _, _, _, _, _, _, _, _, _, _, _, _, _, _, _, _, _, _, _, _, _, _, _, _, _, _, _, _, _, _, _, _, _, _, _, _, _, _, _, _, _, _, _, _, _, _, _, _, _, _, _, _, _, _, _, _, _, _, _, _, _, _, _, _, _, _, _, _, _, _, _, _, _, _, _, _, _, _, _, _, _, _, _, _, _, _, hfx, rfl⟩)
                · exact fs_lose2 HSW (by omega) y hy (by omega) (fun _ _ _ _ _ _ _ _ _ _ _ _ _ _ _ _ _ _ _ _ _ _ _ _ _ _ _ _ _ _ _ _ _ _ _ _ _ _ _ _ _ _ _ _ _ _ _ _ _ _ _ _ _ _ _ _ _ _ _ _ _ _ _ _ _ _ _ _ _ _ _ _ _ _ _ _ _ _ _ _ _ _ _ _ _ _ _ _ _ _ _ _ _ _ _ w' hfx => hK _ _ ⟨_, _, _, _, _, _, _, _, _, _, _, _, _, _, _, _, _, _, _, _, _, _, _, _, _, _, _, _, _, _, _, _, _, _, _, _, _, _, _, _, _, _, _, _, _, _, _, _, _, _, _, _, _, _, _, _, _, _, _, _, _, _, _, _, _, _, _, _, _, _, _, _, _, _, _, _, _, _, _, _, _, _, _, _, _, _, _, _, _, _, _, _, _, _, _, _, _, _, _, _, _, _, _, _, _, _, _, _, _, _, _, _, _, _, _, _, _, _, _, _, _, _, _, hfx, rfl⟩)
            by_cases hq4 : q = 4
            · subst hq4
              by_cases h0 : fs.length = 0
              · exact fs_twice0 HSW h0 (fun _ _ _ _ _ _ _ _ _ _ _ _ _ _ _ _ _ _ _ _ _ _ _ _ _ _ _ _ _ _ _ _ _ _ _ _ _ _ _ _ _ _ _ _ _ _ _ _ _ _ _ _ _ _ _ _ _ _ _ _ _ _ _ _ _ _ _ _ _ _ _ _ _ _ _ _ _ _ _ _ _ _ _ _ _ _ _ _ _ _ _ _ _ _ _ w' hfx => hK _ _ ⟨_, _, _, _, _, _, _, _, _, _, _, _, _, _, _, _, _, _, _, _, _, _, _, _, _, _, _, _, _, _, _, _, _, _, _, _, _, _, _, _, _, _, _, _, _, _, _, _, _, _, _, _, _, _, _, _, _, _, _, _, _, _, _, _, _, _, _, _, _, _, _, _, _, _, _, _, _, _, _, _, _, _, _, _, _, _, _, _, _, _, _, _, _, _, _, _, _, _, _, _, _, _, _, _, _, _, _, _, _, _, _, _, _, _, _, _, _, _, _, _, _, _, _, hfx, rfl⟩)
              · obtain ⟨y, hy⟩ := hyy (by omega)
                exact fs_twice1 HSW y hy (fun _ _ _ _ _ _ _ _ _ _ _ _ _ _ _ _ _ _ _ _ _ _ _ _ _ _ _ _ _ _ _ _ _ _ _ _ _ _ _ _ _ _ _ _ _ _ _ _ _ _ _ _ _ _ _ _ _ _ _ _ _ _ _ _ _ _ _ _ _ _ _ _ _ _ _ _ _ _ _ _ _ _ _ _ _ _ _ _ _ _ _ _ _ _ _ w' hfx => hK _ _ ⟨_, _, _, _, _, _, _, _, _, _, _, _, _, _, _, _, _, _, _, _, _, _, _, _, _, _, _, _, _, _, _, _, _, _, _, _, _, _, _, _, _, _, _, _, _, _, _, _, _, _, _, _, _, _, _, _, _, _, _, _, _, _, _, _, _, _, _, _, _, _, _, _, _, _, _, _, _, _, _, _, _, _, _, _, _, _, _, _, _, _, _, _, _, _, _, _, _, _, _, _, _, _, _, _, _, _, _, _, _, _, _, _, _, _, _, _, _, _, _, _, _, _, _, hfx, rfl⟩)
            exact fs_send HSW q (by simpa using hq2) (by simpa using hq3) (by simpa using hq4) (fun _ _ _ _ _ _ _ _ _ _ _ _ _ _ _ _ _ _ _ _ _ _ _ _ _ _ _ _ _ _ _ _ _ _ _ _ _ _ _ _ _ _ _ _ _ _ _ _ _ _ _ _ _ _ _ _ _ _ _ _ _ _ _ _ _ _ _ _ _ _ _ _ _ _ _ _ _ _ _ _ _ _ _ _ _ _ _ _ _ _ _ _ _ _ _ w' hfx => hK _ _ ⟨_, _, _, _, _, _, _, _, _, _, _, _, _, _, _, _, _, _, _, _, _, _, _, _, _, _, _, _, _, _, _, _, _, _, _, _, _, _, _, _, _, _, _, _, _, _, _, _, _, _, _, _, _, _, _, _, _, _, _, _, _, _, _, _, _, _, _, _, _, _, _, _, _, _, _, _, _, _, _, _, _, _, _, _, _, _, _, _, _, _, _, _, _, _, _, _, _, _, _, _, _, _, _, _, _, _, _, _, _, _, _, _, _, _, _, _, _, _, _, _, _, _, _, hfx, rfl⟩)
      · go_wp2_with fail
        unfold FW Fmu
        refine ⟨⟨Ds, _, _, _, _, _, _, _, _, _, _, _, _, _, _, _, _, _, _, _, _, _, _, _, _, _, _, _, _, _, _, _, _, _, _, _, _, _, _, _, _, _, _, _, _, _, _, _, _, _, _, _, _, _, _, _, _, _, _, _, _, _, _, _, _, _, _, _, _, _, _, _, _, _, _, _, _, _, _, _, _, _, _, _, _, _, _, _, _, _, _, _, _, _, _, _, _, _, _, _, _, _, _, _, _, _, _, _, _, _, _, _, _, _, _, _, _, _, _, _, _, _, _, _, k + 1, ⟨by omega, FL.next HF.out HM.out HN.out hB (HF.out.idle (New.al (New.refl _) _))⟩, rfl⟩, by simp [intOf]; omega⟩
  · obtain rfl : k = n := by omega
    go_wp2_with fail
    exact HE.out Ds _ _ _ _ _ _ _ _ _ _ _ _ _ _ _ _ _ _ _ _ _ _ _ _ _ _ _ _ _ _ _ _ _ _ _ _ _ _ _ _ _ _ _ _ _ _ _ _ _ _ _ _ _ _ _ _ _ _ _ _ _ _ _ _ _ _ _ _ _ _ _ _ _ _ _ _ _ _ _ _ _ _ _ _ _ _ _ _ _ _ _ _ _ _ _ _ _ _ _ _ _ _ _ _ _ _ _ _ _ _ _ _ _ _ _ _ _ _ _ _ _ _ _ wr ⟨⟨X, l1, l2, f, m, HF.out⟩, HM.out, HN.out⟩
set_option maxHeartbeats 4000000 in
set_option maxRecDepth 100000 in
theorem f_loop {x1 x2 x3 x6 x8 x16 x17 x18 x19 x20 x21 x22 x23 x24 x25 x26 x27 x28 x29 x30 x31 x32 x51 u4 u9 u10 u11 u12 u13 u14 u15 u36 u37 u38 u39 u40 u41 u42 u43 u44 u45 u46 u47 u48 u49 u50 u52 u53 u54 u55 u56 u57 u58 u59 u60 u61 u62 u63 u64 u65 u66 u67 u68 u69 u70 u71 u72 u73 u74 u75 u76 u77 u78 u79 u80 u81 u82 u83 u84 u85 u86 u87 u88 u89 u90 u91 u92 u93 u94 u95 u96 u97 u98 u99 u100 u101 u102 u103 u104 u105 u106 u107 u108 u109 u110 u111 u112 u113 u114 u115 u116 u117 u118 u119 u120 u121 u122 u123 u124 u125 u126 u127 u128 u129 u130 u131 u132 u133 u134 u135 u136 u137 u138 u139 u140 u141 u142 u143 u144 u145 u146 u147 u148 u149 u150 u151 : Value} {w : World} {base g bl c0 : Nat} {C : Bool → Nat} {p : Int} {A : Option Addr} {n c : Nat} (L : List Ac) (hL : L.length = n) (hR : Rd (fun b => b < w.heap.size) w 4 A n (L.flatMap Ac.cells)) (hg : ∀ a ∈ L, a.Good w) (h6 : n ≤ 600) (h2 : ∀ a ∈ L, a.x.n ≤ 200) (hB : w.heap.size ≤ base) {Q0 : Exit → Act → World → Prop} {wr : World}
    (h0 : FL w base g bl c0 C p 0 [] wr)
    (hexit : ∀ (Ds : List Nat) (u4 u9 u10 u11 u12 u13 u14 u15 u36 u37 u38 u39 u40 u41 u42 u43 u44 u45 u46 u47 u48 u49 u50 u52 u53 u54 u55 u56 u57 u58 u59 u60 u61 u62 u63 u64 u65 u66 u67 u68 u69 u70 u71 u72 u73 u74 u75 u76 u77 u78 u79 u80 u81 u82 u83 u84 u85 u86 u87 u88 u89 u90 u91 u92 u93 u94 u95 u96 u97 u98 u99 u100 u101 u102 u103 u104 u105 u106 u107 u108 u109 u110 u111 u112 u113 u114 u115 u116 u117 u118 u119 u120 u121 u122 u123 u124 u125 u126 u127 u128 u129 u130 u131 u132 u133 u134 u135 u136 u137 u138 u139 u140 u141 u142 u143 u144 u145 u146 u147 u148 u149 u150 u151 : Value) (wr : World), FL w base g bl c0 C p n Ds wr → Q0 (.exit 0) ⟨#[.int .i64 p, x1, x2, x3, u4, .pointer (some ⟨g, 0, none⟩), x6, .pointer (some ⟨bl, 0, none⟩), x8, u9, u10, u11, u12, u13, u14, u15, x16, x17, x18, x19, x20, x21, x22, x23, x24, x25, x26, x27, x28, x29, x30, x31, x32, .slice A n c, .int .i64 n, .int .i64 n, u36, u37, u38, u39, u40, u41, u42, u43, u44, u45, u46, u47, u48, u49, u50, x51, u52, u53, u54, u55, u56, u57, u58, u59, u60, u61, u62, u63, u64, u65, u66, u67, u68, u69, u70, u71, u72, u73, u74, u75, u76, u77, u78, u79, u80, u81, u82, u83, u84, u85, u86, u87, u88, u89, u90, u91, u92, u93, u94, u95, u96, u97, u98, u99, u100, u101, u102, u103, u104, u105, u106, u107, u108, u109, u110, u111, u112, u113, u114, u115, u116, u117, u118, u119, u120, u121, u122, u123, u124, u125, u126, u127, u128, u129, u130, u131, u132, u133, u134, u135, u136, u137, u138, u139, u140, u141, u142, u143, u144, u145, u146, u147, u148, u149, u150, u151], Ds.map mk1⟩ wr) :
    Code.wp Try.prog (Code.loop flp) Q0 ⟨#[.int .i64 p, x1, x2, x3, u4, .pointer (some ⟨g, 0, none⟩), x6, .pointer (some ⟨bl, 0, none⟩), x8, u9, u10, u11, u12, u13, u14, u15, x16, x17, x18, x19, x20, x21, x22, x23, x24, x25, x26, x27, x28, x29, x30, x31, x32, .slice A n c, .int .i64 n, .int .i64 0, u36, u37, u38, u39, u40, u41, u42, u43, u44, u45, u46, u47, u48, u49, u50, x51, u52, u53, u54, u55, u56, u57, u58, u59, u60, u61, u62, u63, u64, u65, u66, u67, u68, u69, u70, u71, u72, u73, u74, u75, u76, u77, u78, u79, u80, u81, u82, u83, u84, u85, u86, u87, u88, u89, u90, u91, u92, u93, u94, u95, u96, u97, u98, u99, u100, u101, u102, u103, u104, u105, u106, u107, u108, u109, u110, u111, u112, u113, u114, u115, u116, u117, u118, u119, u120, u121, u122, u123, u124, u125, u126, u127, u128, u129, u130, u131, u132, u133, u134, u135, u136, u137, u138, u139, u140, u141, u142, u143, u144, u145, u146, u147, u148, u149, u150, u151], []⟩ wr := by
  refine wp_loop (FW x1 x2 x3 x6 x8 x16 x17 x18 x19 x20 x21 x22 x23 x24 x25 x26 x27 x28 x29 x30 x31 x32 x51 w base g bl c0 C p A n c) (Fmu n) ?_ (fun a w'' hI => f_round L hL hR hg h6 h2 hB hexit a w'' hI)
  unfold FW
  exact ⟨[], _, _, _, _, _, _, _, _, _, _, _, _, _, _, _, _, _, _, _, _, _, _, _, _, _, _, _, _, _, _, _, _, _, _, _, _, _, _, _, _, _, _, _, _, _, _, _, _, _, _, _, _, _, _, _, _, _, _, _, _, _, _, _, _, _, _, _, _, _, _, _, _, _, _, _, _, _, _, _, _, _, _, _, _, _, _, _, _, _, _, _, _, _, _, _, _, _, _, _, _, _, _, _, _, _, _, _, _, _, _, _, _, _, _, _, _, _, _, _, _, _, _, _, 0, ⟨Nat.zero_le _, h0⟩, rfl⟩
set_option maxHeartbeats 16000000 in
set_option maxRecDepth 100000 in
theorem fair_walk (p : Int) (A : Option Addr) (n c : Nat) (L : List Ac) (w : World) (hn : n ≤ maxLen) (hL : L.length = n) (hR : Rd (fun b => b < w.heap.size) w 4 A n (L.flatMap Ac.cells)) (hg : ∀ a ∈ L, a.Good w) :
    Calls Try.prog 3 #[.int .i64 p, .slice A n c] w fun e w' => e = .returned (.bool true) ∧ New w w' := by
  have HR := Lib.hid hR
  have HL := Lib.hid hL
  have HG := Lib.hid hg
  have HLL := Lib.hid (fun w1 (hN : New w w1) => long_law A n c L w1 (hN.rd hR) hL hn (fun a ha => (hg a ha).nn))
  have hmm := @run_makeMap Try.prog
  unfold maxLen at hn
  clear hR hL hg
  refine (callsIn_wide (n := 3)).1 ?_
  refine callsIn_of_wp_marks Try.func3 rfl trivial ?_ rfl
  refine wpIn_wide.2 ?_
  simp only [Try.ntmps3, List.size_toArray, List.length_cons, List.length_nil, Nat.reduceAdd, Nat.reduceSub, Array.replicate_succ, Array.replicate_zero, List.push_toArray, List.append_toArray, List.nil_append, List.cons_append]
  go_wp2_with fail
  refine (alive_any w).mono ?_
  rintro e w1 ⟨rfl, hN1⟩
  have HN1 : Hid (New w w1) := Lib.hid hN1
  clear hN1
  go_wp2_with fail
  refine (HLL.out w1 HN1.out).mono ?_
  rintro e w2 ⟨⟨lb, rfl, hlb⟩, hN2⟩
  have HN2 : Hid (New w w2) := Lib.hid (HN1.out.tr hN2)
  have HLB := Lib.hid hlb
  clear hN2 hlb HLL
  rcases lb with _ | _
  · obtain ⟨h600, h200⟩ := HLB.out rfl
    have H200 := Lib.hid h200
    clear HLB h200 hn
    go_wp2_with fail
    by_cases hbad : p < 1 ∨ 64 < p
    · have HBAD := Lib.hid hbad
      clear hbad
      refine (new_bad p w2 HBAD.out).mono ?_
      rintro e w' ⟨rfl, rfl⟩
      as_aux_lemma =>
      go_wp2_with fail
      refine ⟨.bool true, ?_, rfl, HN2.out⟩
      simp [results, Try.results3, go_sem]
    have hp1 : 1 ≤ p := by omega
    have hp2 : p ≤ 64 := by omega
    clear hbad
    refine (new_ok p w2.heap.size w2 hp1 hp2 (Nat.le_refl _)).mono ?_
    rintro e w3 ⟨rfl, b1, b2, hT, hN3⟩
    obtain ⟨g, hg⟩ : ∃ g, g = w2.heap.size := ⟨_, rfl⟩
    obtain ⟨base, hbs⟩ : ∃ base, base = w2.heap.size := ⟨_, rfl⟩
    have HT : Hid (Nt (fun _ => False) w3 base g p (L0 b1) (L0 b2) 0) := Lib.hid (by rw [hg, hbs]; exact hT)
    have HN3 : Hid (New w w3) := Lib.hid (HN2.out.tr hN3)
    have HBS : Hid (w.heap.size ≤ base) := Lib.hid (by rw [hbs]; exact HN2.out.size)
    rw [← hg]
    clear hT hN3 hg hbs
    go_wp2_with fail
    obtain ⟨w4, hw4⟩ : ∃ w4 : World, w4 = (((w3.alloc (.map #[] 0)).alloc (.map #[] 0)).alloc (.map #[] 0)).alloc (.cells #[.map (some w3.heap.size), .map (some (w3.heap.size + 1)), .map (some (w3.heap.size + 1 + 1))] 31) := ⟨_, rfl⟩
    obtain ⟨c0, hc0⟩ : ∃ c0, c0 = w3.heap.size := ⟨_, rfl⟩
    obtain ⟨c1, hc1⟩ : ∃ c1, c1 = w3.heap.size + 1 := ⟨_, rfl⟩
    obtain ⟨c2, hc2⟩ : ∃ c2, c2 = w3.heap.size + 1 + 1 := ⟨_, rfl⟩
    obtain ⟨bl, hbl⟩ : ∃ bl, bl = w3.heap.size + 1 + 1 + 1 := ⟨_, rfl⟩
    have HN4 : Hid (New w3 w4) := Lib.hid (by rw [hw4]; exact New.al (New.al (New.al (New.al (New.refl _) _) _) _) _)
    have HBL : Hid (Blk w4 bl 31 #[.map (some c0), .map (some c1), .map (some c2)]) := Lib.hid (by rw [hw4, hbl, hc0, hc1, hc2]; exact Blk.new' _ _ _ (by simp))
    have HM1 : Hid (MapAt w4 Try.prog 9 c1 0 (fun _ => none)) := Lib.hid (by
      have := ((MapAt.made (w3.alloc (.map #[] 0)) Try.prog 9).alloc (.map #[] 0)).alloc (.cells #[.map (some w3.heap.size), .map (some (w3.heap.size + 1)), .map (some (w3.heap.size + 1 + 1))] 31)
      rw [hw4, hc1]
      simpa using this)
    have HM2 : Hid (MapAt w4 Try.prog 9 c2 0 (fun _ => none)) := Lib.hid (by
      have := (MapAt.made ((w3.alloc (.map #[] 0)).alloc (.map #[] 0)) Try.prog 9).alloc (.cells #[.map (some w3.heap.size), .map (some (w3.heap.size + 1)), .map (some (w3.heap.size + 1 + 1))] 31)
      rw [hw4, hc2]
      simpa using this)
    rw [← hw4, ← hbl, ← hc2, ← hc1, ← hc0]
    have HC : Hid (w3.heap.size ≤ c0 ∧ c0 < c1 ∧ c1 < c2 ∧ c2 < bl) := Lib.hid (by omega)
    have HB3 : Hid (base ≤ w3.heap.size) := Lib.hid HT.out.base_
    clear hw4 hc0 hc1 hc2 hbl
    refine f_loop (w := w) (base := base) (g := g) (bl := bl) (c0 := c0) (p := p) (C := fun i => if i then c2 else c1) L HL.out HR.out HG.out h600 H200.out HBS.out ?h0 ?hexit
    case h0 =>
      refine ⟨⟨fun _ => False, L0 b1, L0 b2, fun _ _ => none, fun _ => 0, HT.out.new HN4.out, HBL.out, ?_, fun _ => Nat.le_refl _, ?_, ?_, ?_, ?_, ?_⟩, Marks.nil _ _, HN3.out.tr HN4.out⟩
      · intro i
        cases i
        · exact HM1.out
        · exact HM2.out
      · intro i xs _
        cases i <;> rfl
      · rintro j (hj | hj) hb
        · have h1 := (HT.out.ours hj).2
          have h2 := HC.out
          rcases hb with rfl | ⟨i, rfl⟩
          · omega
          · cases i <;> simp at h1 <;> omega
        · exact hj.elim
      · have := HC.out
        show c1 ≠ c2
        omega
      · have := HC.out
        have := HB3.out
        omega
      · intro i
        have := HC.out
        have := HB3.out
        cases i <;> simp <;> omega
    case hexit =>
      intro Ds u4 u9 u10 u11 u12 u13 u14 u15 u36 u37 u38 u39 u40 u41 u42 u43 u44 u45 u46 u47 u48 u49 u50 u52 u53 u54 u55 u56 u57 u58 u59 u60 u61 u62 u63 u64 u65 u66 u67 u68 u69 u70 u71 u72 u73 u74 u75 u76 u77 u78 u79 u80 u81 u82 u83 u84 u85 u86 u87 u88 u89 u90 u91 u92 u93 u94 u95 u96 u97 u98 u99 u100 u101 u102 u103 u104 u105 u106 u107 u108 u109 u110 u111 u112 u113 u114 u115 u116 u117 u118 u119 u120 u121 u122 u123 u124 u125 u126 u127 u128 u129 u130 u131 u132 u133 u134 u135 u136 u137 u138 u139 u140 u141 u142 u143 u144 u145 u146 u147 u148 u149 u150 u151 wr hFL
      have HFL := Lib.hid hFL
      clear hFL
      go_wp2_with fail
      refine leaves_marks Ds wr HFL.out.2.1 (fun W' hS => ⟨.bool true, ?_, rfl, Below.trans HFL.out.2.2 hS.below⟩)
      simp [results, Try.results3, go_sem]
  · clear HLB hn
    go_wp2_with fail
    refine ⟨.bool true, ?_, rfl, HN2.out⟩
    simp [results, Try.results3, go_sem]
end Go.Proofs.Ytajoahhjgloefaa
