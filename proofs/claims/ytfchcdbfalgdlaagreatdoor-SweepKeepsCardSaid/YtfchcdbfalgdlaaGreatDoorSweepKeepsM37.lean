/- Texts of one proof, one behind the other: SwN, ShL, SwV. No condition but each one's own. -/
import Derived.Test.YtfchcdbfalgdlaaGreatDoorSweepKeepsM35
import Derived.Test.YtfchcdbfalgdlaaGreatDoorSweepKeepsM36
import Derived.Test.YtfchcdbfalgdlaaGreatDoorRows
import Derived.Test.YtfchcdbfalgdlaaGreatDoorSweepKeepsM6
import Derived.Test.YtfchcdbfalgdlaaGreatDoorSweepKeepsM4
import Derived.Test.YtfchcdbfalgdlaaGreatDoorSweepKeepsM3
import Derived.Test.YtfchcdbfalgdlaaGreatDoorSweepKeepsM5
import Derived.Test.YtfchcdbfalgdlaaGreatDoorSweepKeepsM7
import Derived.OpenShut
import Derived.SevenTiedAt
import Derived.Stop.Joined
import Derived.Deep.CutRange
import Derived.Deep.CutBlock
namespace Go.Proofs.YtfchcdbfalgdlaaGreatDoor
set_option linter.unusedVariables false
set_option linter.unusedSimpArgs false
set_option linter.constructorNameAsVariable false
open Go.RowKit Go.Sort Go.Maps
section
variable {s : SW} {K : List (List Int)}
theorem SOk.swept (h : SOk s K) (hg : s.gen + 1 < 4294967296) : ∃ K', SOk (swpS s).1 K' ∧ (swpS s).1.t = s.t ∧ (swpS s).1.p.size = s.p.size ∧ (swpS s).1.gen ≤ s.gen + 1 := by
 by_cases hb : s.broken = true
 · have e : swpS s = (s, 10) := by unfold swpS; rw [if_pos hb]
   rw [e]
   exact ⟨K, h, rfl, rfl, Nat.le_succ _⟩
 · obtain ⟨K', h1, h2, h3, h4⟩ := h.sweep (by simpa using hb) hg
   exact ⟨K', h1, h2, h3, by rcases h4 with h4 | h4 <;> have := h4.2.2 <;> omega⟩
end
set_option maxRecDepth 100000
structure KI (W w : World) (gs gd bs bf bt g8 b8 : Nat) (s : SW) (K : List (List Int)) (mm j sz : Nat) : Prop where
 st : Sto W w gs gd bs bf bt s K mm
 tb : ∃ X m E, TbIn X w W.heap.size g8 b8 m E ∧ (cont E).Perm s.t ∧ m ≤ 20000 + 600 * j
 ne : b8 ≠ bs ∧ b8 ≠ bf ∧ b8 ≠ bt
 sz : s.p.size = sz
 gen : s.gen ≤ 1 + j
 mm : mm ≤ 20000 + 600 * j
section
variable {W w w' : World} {gs gd bs bf bt g8 b8 mm j sz mm' j' g13 : Nat} {s s' : SW} {K K' : List (List Int)}
theorem KI.new (h : KI W w gs gd bs bf bt g8 b8 s K mm j sz) (hN : New w w') (hj : j ≤ j' := by omega) : KI W w' gs gd bs bf bt g8 b8 s K mm j' sz := by
 obtain ⟨X, m, E, h1, h2, h3⟩ := h.tb
 exact ⟨h.st.new hN, ⟨X, m, E, h1.new hN, h2, by omega⟩, h.ne, h.sz, by have := h.gen; omega, by have := h.mm; omega⟩
theorem KI.mps (h : KI W w gs gd bs bf bt g8 b8 s K mm j sz) : ∀ k, Mps bs bf bt k → k ≠ b8 ∧ ¬ IsT 5 w k ∧ ¬ IsT 123 w k := fun k hk => ⟨by
    have := h.ne
    rcases hk with rfl | rfl | rfl
    · exact this.1.symm
    · exact this.2.1.symm
    · exact this.2.2.symm, h.st.st.mps k hk _, h.st.st.mps k hk _⟩
theorem KI.step (h : KI W w gs gd bs bf bt g8 b8 s K mm j sz) (hS : StTo W w gs gd bs bf bt s' mm' w') (hok : SOk s' K') (ht : s'.t = s.t) (hz : s'.p.size = s.p.size) (hg : s'.gen ≤ s.gen + 1) (hm : mm' ≤ mm + 600) : KI W w' gs gd bs bf bt g8 b8 s' K' mm' (j + 1) sz := by
 obtain ⟨X, m, E, h1, h2, h3⟩ := h.tb
 exact ⟨⟨hS.1, hok, hS.2.nw h.st.nw⟩, ⟨X, m, E, hS.2.tb h1 h.mps, ht ▸ h2, by omega⟩, h.ne, hz.trans h.sz, by have := h.gen; omega, by have := h.mm; omega⟩
theorem KI.g1 (h : KI W w gs gd bs bf bt g8 b8 s K mm j sz) (hj : j ≤ 25) : s.gen + 1 < 4294967296 ∧ mm ≤ 900000 := ⟨by have := h.gen; omega, by have := h.mm; omega⟩
theorem sweep_k (h : KI W w gs gd bs bf bt g8 b8 s K mm j sz) (hj : j ≤ 25) (hL : ShaIn 4 2 W) :
    Calls Tryz.prog 16 #[.pointer (some ⟨gs, 0, none⟩)] w fun e w' => ∃ v s' K', e = .returned v ∧ KI W w' gs gd bs bf bt g8 b8 s' K' mm (j + 1) sz := by
 obtain ⟨K', h1, h2, h3, h4⟩ := h.st.ok.swept (h.g1 hj).1
 exact (sweep_any h.st.st h.st.nw hL (by have := (h.g1 hj).2; omega) h.st.ok.tok).mono fun e w' ⟨he, hS⟩ => ⟨errD (swpS s).2, (swpS s).1, K', he, h.step hS h1 h2 h3 h4 (by omega)⟩
theorem tidy_k (h : KI W w gs gd bs bf bt g8 b8 s K mm j sz) (hj : j ≤ 25) (hL : ShaIn 4 2 W) (y : Nat) :
    Calls Tryz.prog 10 #[.pointer (some ⟨gs, 0, none⟩), .float .f64 y] w fun e w' => ∃ a b s' K', e = .returned (.tuple #[a, b]) ∧ KI W w' gs gd bs bf bt g8 b8 s' K' mm (j + 1) sz := by
 obtain ⟨K', h1, h2, h3, h4⟩ := h.st.ok.swept (h.g1 hj).1
 refine (tidy_any h.st.st h.st.nw hL (by have := (h.g1 hj).2; omega) h.st.ok.tok y).mono fun e w' ⟨r, hr, hx⟩ => ?_
 split at hx
 · exact ⟨_, _, _, K', hx.1, h.step hx.2 h1 h2 h3 h4 (by omega)⟩
 · exact ⟨_, _, _, K, hx.1, h.step hx.2 h.st.ok rfl rfl (by omega) (by omega)⟩
theorem fuse_k (h : KI W w gs gd bs bf bt g8 b8 s K mm j sz) (a : Int) (ha : (Lit.int .i64 a).wf = true) :
    Calls Tryz.prog 27 #[.pointer (some ⟨gd, 0, none⟩), .int .i64 a] w fun e w' => e = .returned (.tuple #[]) ∧ ∃ s' K', KI W w' gs gd bs bf bt g8 b8 s' K' mm (j + 1) sz := by
 obtain ⟨gl, gt, v, X, m, E, hX⟩ := h.st.st
 refine (fuse_in hX.dk ha).mono fun e w' ⟨he, hD, hF⟩ => ⟨he, { s with p := s.p.fused a }, K, ?_⟩
 obtain ⟨k1, k2⟩ := hX.disk hF (fun k hk => hX.dkfr k (.inl hk)) hD rfl
 exact h.step ⟨⟨_, _, _, _, _, _, k1⟩, k2⟩ (h.st.ok.fused a (bounds_i64 ha).2) rfl rfl (by show s.gen ≤ _; omega) (by omega)
theorem cut_k (h : KI W w gs gd bs bf bt g8 b8 s K mm j sz) (hL : ShaIn 4 2 W) (h4 : 4 ≤ sz) (h6 : sz ≤ 67) {q : Nat → Prop} (A : Option Addr) (n c : Nat) (keep : List Bool) (hR : Rd q w 1 A n (bools keep)) (hn : n ≤ maxLen) (hq : ∀ k, q k → k < W.heap.size) :
    Calls Tryz.prog 25 #[.pointer (some ⟨gd, 0, none⟩), .slice A n c] w fun e w' => e = .returned (.tuple #[]) ∧ Calls Tryz.prog 9 #[.pointer (some ⟨gd, 0, none⟩)] w' fun e w' => ∃ gs bt s K mm, e = .returned (.tuple #[.pointer (some ⟨gs, 0, none⟩), .nilIface]) ∧ KI W w' gs gd bs bf bt g8 b8 s K mm (j + 1) sz := by
 obtain ⟨X, m, E, t1, t2, t3⟩ := h.tb
 have hm : ∀ w' : World, (∃ v', Dk w' W.heap.size gd bs bf v' (s.p.cut keep)) → ∀ k, Mps bs bf bs k → k ≠ b8 ∧ ¬ IsT 5 w' k ∧ ¬ IsT 123 w' k := fun w' ⟨v', hD⟩ k hk => by
  have := h.ne
  rcases hk with rfl | rfl | rfl
  · exact ⟨this.1.symm, IsT.not_map hD.ms, IsT.not_map hD.ms⟩
  · exact ⟨this.2.1.symm, IsT.not_map hD.mw, IsT.not_map hD.mw⟩
  · exact ⟨this.1.symm, IsT.not_map hD.ms, IsT.not_map hD.ms⟩
 have hb8 := t1.blt
 refine (cut_s h.st A n c keep hR hn hq).mono fun e w1 ⟨he, hD, hK⟩ => ⟨he, ?_⟩
 obtain ⟨s', o1, o2, o3, o4, o5, o6⟩ := h.st.ok.open_ keep
 have hz : (s.p.cut keep).size = sz := h.sz
 have u1 : TbIn X w1 W.heap.size g8 b8 m E := hK.tb t1 fun k hk => by
  have := h.mps k (by rcases hk with e | e | e; exact .inl e; exact .inr (.inl e); exact .inl e)
  exact this
 have hsz := hK.size
 have hm1 := hm w1 hD
 obtain ⟨v', hD⟩ := hD
 refine (open_s hD (hK.nw h.st.nw) hL (up_cut _ _) (by omega) (by omega) o1 o2).mono fun e w2 ⟨gs', bt', he, hS, h1, h2, hK2⟩ => ⟨gs', bt', s', K, _, he, hS, ⟨X, m, E, hK2.tb u1 hm1, t2.trans o5.symm, by omega⟩, ⟨h.ne.1, h.ne.2.1, by omega⟩, o6.trans h.sz, by have := h.gen; omega, by rw [hz]; unfold hlf; omega⟩
theorem same_k (h : KI W w gs gd bs bf bt g8 b8 s K mm j sz) (hj : j ≤ 26) :
    Calls Tryz.prog 17 #[.pointer (some ⟨gs, 0, none⟩)] w fun e w' => New w w' ∧ ∃ g', e = .returned (.pointer (some ⟨g', 0, none⟩)) ∧ Calls Tryz.prog 26 #[.pointer (some ⟨g', 0, none⟩), .pointer (some ⟨g8, 0, none⟩)] w' fun e w'' => e = .returned (.bool true) ∧ New w w'' := by
 obtain ⟨X, m, E, t1, t2, t3⟩ := h.tb
 have hmm := h.mm
 refine (table_any h.st.st h.st.nw).mono fun e w' ⟨⟨X', m', E', g', b', he, k1, k2, k3, k4, k5, k6⟩, hN⟩ => ⟨hN, g', he, ?_⟩
 exact (same_live k1 (t1.new hN) (by omega) (by omega) (by omega) (k2 ▸ t2.symm)).mono fun e w'' ⟨h1, h2⟩ => ⟨h1, hN.tr h2⟩
theorem tab_k (h : KI W w gs gd bs bf bt g8 b8 s K mm j sz) :
    Calls Tryz.prog 17 #[.pointer (some ⟨gs, 0, none⟩)] w fun e w' => ∃ g' b', e = .returned (.pointer (some ⟨g', 0, none⟩)) ∧ New w w' ∧ KI W w' gs gd bs bf bt g' b' s K mm j sz := by
 have hl : Mps bs bf bt b8 → False := fun hk => (h.mps _ hk).1 rfl
 obtain ⟨gl, gt, v, X, m, E, hX⟩ := h.st.st
 have hmm := h.mm
 refine (table_any h.st.st h.st.nw).mono fun e w' ⟨⟨X', m', E', g', b', he, k1, k2, k3, k4, k5, k6⟩, hN⟩ => ⟨g', b', he, hN, h.st.new hN, ⟨X', m', E', k1, k2 ▸ List.Perm.refl _, by omega⟩, ?_, h.sz, h.gen, h.mm⟩
 have h1 := (hX.dk.ours bs (.inr (.inl rfl))).2
 have h2 := (hX.dk.ours bf (.inr (.inr (.inl rfl)))).2
 have h3 := hX.tb.blt
 omega
theorem AW.Good.new {x : AW} (h : x.Good w) (hN : New w w') : x.Good w' := ⟨h.kind, h.num, h.b.new hN, h.bits, h.n2, (hN.rd h.rd2).imp fun k hk => by have := hN.size; omega⟩
structure KN (W w : World) (bs bf bt g13 : Nat) (s : SW) (L : List Ch) (j b13 : Nat) : Prop where
 tb : ∃ X m E, TbIn X w W.heap.size g13 b13 m E ∧ (cont E).Perm (doPs s.t (L.map pcOf)) ∧ m ≤ 20000 + 600 * (j + 1)
 ne : b13 ≠ bs ∧ b13 ≠ bf ∧ b13 ≠ bt
theorem next_k (h : KI W w gs gd bs bf bt g8 b8 s K mm j sz) (hj : j ≤ 25) (A : Option Addr) (n c : Nat) (L : List Ch) (hR : RTb W A n L) (hb : ∀ c ∈ L, c.Good W) (hn : n ≤ 30) :
    Calls Tryz.prog 28 #[.pointer (some ⟨g8, 0, none⟩)] w fun e w' => ∃ g13, e = .returned (.pointer (some ⟨g13, 0, none⟩)) ∧ New w w' ∧ Calls Tryz.prog 29 #[.pointer (some ⟨g13, 0, none⟩), .slice A n c] w' fun e w'' => New w w'' ∧ (e = .returned (.iface 38 (.int .i64 2)) ∨ e = .returned .nilIface ∧ ∃ b13, KN W w'' bs bf bt g13 s L j b13) := by
 obtain ⟨X, m, E, t1, t2, t3⟩ := h.tb
 refine (copy_any_l19 t1 h.st.nw.size).mono fun e w1 ⟨g13, b13, he, k1, hN, k2, k3⟩ => ⟨g13, he, hN, ?_⟩
 have hNW := h.st.nw.tr hN
 by_cases hc : chsOk L = true
 · refine (apply_any k1 A n c L (hNW.rd hR.rd) hR.len (fun x hx => (hR.el x hx).new hNW) (fun k hk => by have := h.st.nw.size; omega) hc (by omega)).mono fun e w2 ⟨he, X', E', a1, a2, a3, _⟩ => ?_
   refine ⟨hN.fr a3 (fun k hk => by omega), .inr ⟨he, b13, ⟨X', _, E', a1, ?_, by omega⟩, ?_⟩⟩
   · rw [a2, doPs_of]
     exact doPs_perm _ t2
   · obtain ⟨gl, gt, v, X3, m3, E3, hX⟩ := h.st.st
     have h1 := (hX.dk.ours bs (.inr (.inl rfl))).2
     have h2 := (hX.dk.ours bf (.inr (.inr (.inl rfl)))).2
     have h3 := hX.tb.blt
     omega
 · refine (apply_bad g13 A n c L w1 (hNW.rd hR.rd) hR.len (by omega) (fun x hx => by have := (hb x hx).kn; have := (hb x hx).vn; unfold maxLen; omega) (by simpa using hc)).mono fun e w2 ⟨he, hN2⟩ => ⟨hN.tr hN2, .inl he⟩
theorem commit_k {b13 : Nat} (h : KI W w gs gd bs bf bt g8 b8 s K mm j sz) (hj : j ≤ 25) (hL : ShaIn 4 2 W) (A : Option Addr) (n c : Nat) (L : List Ch) (hR : RTb W A n L) (hb : ∀ c ∈ L, c.Good W) (hn : n ≤ 30) (h13 : KN W w bs bf bt g13 s L j b13) :
    Calls Tryz.prog 15 #[.pointer (some ⟨gs, 0, none⟩), .slice A n c] w fun e w' => ∃ a s' K' g' b', e = .returned (errD a) ∧ (a = 0 → g' = g13) ∧ (a ≠ 0 → g' = g8) ∧ KI W w' gs gd bs bf bt g' b' s' K' (mm + 600) (j + 1) sz := by
 obtain ⟨K', c1, c2, c3, c4⟩ := h.st.ok.commit (L := L.map pcOf) (fun c hc => by
  obtain ⟨x, hx, rfl⟩ := List.mem_map.1 hc
  exact ⟨(hR.el x hx).k.byt, (hR.el x hx).v.byt⟩) (h.g1 hj).1
 have hNW := h.st.nw
 refine (commit_any h.st.st hNW hL (h.g1 hj).2 h.st.ok.tok A n c L (hNW.rd hR.rd) hR.len (fun x hx => (hR.el x hx).new hNW) (fun k hk => .inl hk) (by omega) (fun x hx => by have := (hb x hx).kn; have := (hb x hx).vn; unfold maxLen; omega)).mono fun e w' ⟨he, hS⟩ => ?_
 rcases c4 with ⟨d1, d2, -⟩ | ⟨d1, d2⟩
 · obtain ⟨X, m, E, t1, t2, t3⟩ := h13.tb
   refine ⟨_, _, K', g13, b13, he, fun _ => rfl, fun h => absurd d1 h, ⟨⟨hS.1, c1, hS.2.nw hNW⟩, ⟨X, m, E, hS.2.tb t1 fun k hk => ⟨?_, h.st.st.mps k hk _, h.st.st.mps k hk _⟩, d2 ▸ t2, t3⟩, h13.ne, c2.trans h.sz, by have := h.gen; omega, by have := h.mm; omega⟩⟩
   have := h13.ne
   rcases hk with rfl | rfl | rfl
   · exact this.1.symm
   · exact this.2.1.symm
   · exact this.2.2.symm
 · exact ⟨_, _, K', g8, b8, he, fun h => absurd h d1, fun _ => rfl, h.step hS c1 d2 c2 c3 (by omega)⟩
end
end Go.Proofs.YtfchcdbfalgdlaaGreatDoor
namespace Go.Proofs.YtfchcdbfalgdlaaGreatDoor
set_option linter.unusedVariables false
set_option linter.unusedSimpArgs false
set_option linter.constructorNameAsVariable false
open Go.RowKit Go.Sort Go.ChangeShapes Go.WideShapes Go.ChangeAt
theorem laid_u32 {W : World} {n : String} {d : DataW Unit} {r : List (String × DataW Unit)} {ps : List MemPlace} {g t N : Nat} (L : List Int) (h : DataW.LaidVars Tryz.prog W ((n, d) :: r) ps) (hg : Tryz.prog.globalNamed n = some g) (ht : (Tryz.prog.globals[g]?).map (·.type) = some t) (hu : Tryz.prog.underlying t = some (.array N 44)) (hd : d = .agg (L.map fun x => .lit (.int .u32 x))) (hl : L.length = N) :
    (∀ j, j < N → W.cell? ⟨g, j, none⟩ = some (.int .u32 (at_ L j))) ∧ ∃ ps', DataW.LaidVars Tryz.prog W r ps' := by
 obtain ⟨g', t', cs, fuel, p, q, hg', ht', hv, hd', hr, _⟩ := h
 obtain rfl := Option.some.inj (hg.symm.trans hg')
 obtain rfl := Option.some.inj (ht.symm.trans ht')
 refine ⟨fun j hj => ?_, _, hr⟩
 obtain ⟨xs, m, _, ex, _, hxl, hel⟩ := DataW.trod_array hu hd'
 have c5 : Tryz.prog.cellsOf 44 = 1 := by kernel_rfl
 have hE := hel j hj
 rw [c5, Nat.mul_one, List.getElem?_eq_getElem (by omega)] at hE
 obtain ⟨z, e1, e2, _⟩ := DataW.trod_int Tryz.underlying44 hE
 have e3 : (xs.map (·.1)) = L.map fun n => .lit (.int .u32 n) := by
  have h0 := (Prod.mk.inj ex).1
  rw [hd] at h0
  exact (DataW.agg.inj h0).symm
 have e4 : (xs.map (·.1))[j]? = (L.map fun n => (DataW.lit (.int .u32 n) : DataW Unit))[j]? := by rw [e3]
 rw [List.getElem?_map, List.getElem?_map, List.getElem?_eq_getElem (by omega : j < xs.length), List.getElem?_eq_getElem (by omega : j < L.length), e2] at e4
 have hz : z = at_ L j := by
  simp only [Option.map_some, Option.some.injEq, DataW.lit.injEq, Lit.int.injEq, true_and] at e4
  unfold at_
  rw [e4, List.getD, List.getElem?_eq_getElem (by omega : j < L.length)]
  rfl
 rw [World.var?_cell hg hv j, ← hz]
 have : cs.toList[j]? = some (.int .u32 z) := by
  have h0 : ((cs.toList.drop j).take 1)[0]? = some (.int .u32 z) := by rw [e1]; rfl
  simpa using h0
 simpa using this
theorem range_iH {W : World} {g : Nat} (h : ∀ j, j < 8 → W.cell? ⟨g, j, none⟩ = some (.int .u32 (at_ iH.list j))) : W.rangeAt g 0 iH.arr.toList := fun j v hv => by
 have hj : j < 8 := by
  have := (List.getElem?_eq_some_iff.1 hv).1
  exact this
 rw [Nat.zero_add, h j hj, ← hv]
 rcases (by omega : j = 0 ∨ j = 1 ∨ j = 2 ∨ j = 3 ∨ j = 4 ∨ j = 5 ∨ j = 6 ∨ j = 7) with rfl | rfl | rfl | rfl | rfl | rfl | rfl | rfl <;> rfl
theorem sha_live {W : World} (h : laidMetH Tryz.prog [("entrust/sha.constants", Rows.laid_entrust_sha_constants), ("entrust/sha.initials", Rows.laid_entrust_sha_initials)] W) : ShaIn 4 2 W := by
 rw [MakeChecks.laidMetH_plain _ _ _ (by kernel_rfl)] at h
 obtain ⟨ps, h, -, -⟩ := h
 obtain ⟨h3, ps3, h⟩ := laid_u32 kL h (by kernel_rfl) (by kernel_rfl) Tryz.underlying250 rfl rfl
 obtain ⟨h4, ps4, h⟩ := laid_u32 iH.list h (by kernel_rfl) (by kernel_rfl) Tryz.underlying243 rfl rfl
 exact ⟨h3, range_iH h4⟩
end Go.Proofs.YtfchcdbfalgdlaaGreatDoor
namespace Go.Proofs.YtfchcdbfalgdlaaGreatDoor
set_option linter.unusedVariables false
set_option linter.unusedSimpArgs false
set_option linter.constructorNameAsVariable false
open Go.RowKit Go.Sort Go.Maps
theorem fmt_k {W w : World} {gd sz : Nat} (hD : Dkl W w gd (DP.new sz)) (hL : ShaIn 4 2 W) (h4 : 4 ≤ sz) (h6 : sz ≤ 67) :
    Calls Tryz.prog 14 #[.pointer (some ⟨gd, 0, none⟩)] w fun e w' => e = .returned .nilIface ∧ Calls Tryz.prog 9 #[.pointer (some ⟨gd, 0, none⟩)] w' fun e w' => ∃ gs bs bf bt s K mm, e = .returned (.tuple #[.pointer (some ⟨gs, 0, none⟩), .nilIface]) ∧ Sto W w' gs gd bs bf bt s K mm ∧ s.t.Perm [] ∧ s.p.size = sz ∧ s.gen ≤ 1 ∧ mm ≤ 20000 := by
 obtain ⟨bs, bf, v, hD, hN⟩ := hD
 have hu := Up.new sz
 have hz : (DP.new sz).size = sz := rfl
 refine (fmt_l hD hN hL hu (by omega)).mono fun e w1 ⟨he, ⟨v', hD1⟩, hK⟩ => ⟨he, ?_⟩
 obtain ⟨f1, f2, f3⟩ := fmt_ok hD.ok hu (by omega)
 obtain ⟨s', o1, o2, o3, o4, o5, o6⟩ := f1.open_ []
 rw [show (SW.mk (fmtS (DP.new sz)) (log0 (DP.new sz).size 1) [] 1 false).p = fmtS (DP.new sz) from rfl] at o1 o6
 rw [f3] at o1
 refine (open_s hD1 (hK.nw hN) hL (fmt_up hu (by omega)).1 (by omega) (by omega) o1 o2).mono fun e w2 ⟨gs, bt, he, hS, h1, h2, hK2⟩ => ⟨gs, bs, bf, bt, s', [], _, he, hS, o5, by omega, by rw [o3]; exact Nat.le_refl _, ?_⟩
 rw [f2, hz]
 unfold hlf
 omega
theorem KI.start {W w w' : World} {gs gd bs bf bt g8 b8 mm sz : Nat} {s : SW} {K : List (List Int)} {X : Nat → Prop} (hS : Sto W w gs gd bs bf bt s K mm) (hp : s.t.Perm []) (hz : s.p.size = sz) (hg : s.gen ≤ 1) (hm : mm ≤ 20000) (hN : New w w') (hT : TbIn X w' W.heap.size g8 b8 0 []) (hb : w.heap.size ≤ b8) : KI W w' gs gd bs bf bt g8 b8 s K mm 0 sz := by
 refine ⟨hS.new hN, ⟨X, 0, [], hT, hp.symm, by omega⟩, ?_, hz, by omega, by omega⟩
 obtain ⟨gl, gt, v, X3, m3, E3, hX⟩ := hS.st
 have h1 := (hX.dk.ours bs (.inr (.inl rfl))).2
 have h2 := (hX.dk.ours bf (.inr (.inr (.inl rfl)))).2
 have h3 := hX.tb.blt
 omega
set_option maxHeartbeats 4000000
set_option maxRecDepth 100000
theorem swkeeps_main (a : Int) (A : Option Addr) (m c : Nat) (L : List AW) (W : World) (hL : ShaIn 4 2 W) (hm : m ≤ maxLen) (hS : Rd (fun b => b < W.heap.size) W 5 A m (L.flatMap AW.cells)) (hl : L.length = m) (hg : ∀ x ∈ L, x.Good W) :
    Calls Tryz.prog 4 #[.int .i64 a, .slice A m c] W fun e w' => e = .returned (.bool true) ∧ New W w' := by
 have HL := Lib.hid hL
 have HS := Lib.hid hS
 have HLL := Lib.hid hl
 have HG := Lib.hid hg
 have HMX := Lib.hid hm
 have HAL := Lib.hid (salive_any W hL)
 obtain ⟨r, hr⟩ : ∃ r : Nat, (IntKind.u64.wrap a).tmod 60 = (r : Int) := ⟨((IntKind.u64.wrap a).tmod 60).toNat, by
  have h0 : 0 ≤ IntKind.u64.wrap a := by rw [IntKind.wrap_u64]; omega
  have h1 : 0 ≤ (IntKind.u64.wrap a).tmod 60 := Int.tmod_nonneg _ h0
  omega⟩
 have hr60 : r < 60 := by
  have h1 : (IntKind.u64.wrap a).tmod 60 < 60 := Int.tmod_lt_of_pos _ (by decide)
  omega
 obtain ⟨sz, hsz⟩ : ∃ sz, sz = 8 + r := ⟨_, rfl⟩
 have w1 : IntKind.i64.wrap (r : Int) = (r : Int) := IntWalk.i64_in _ (by omega)
 have w2 : IntKind.i64.wrap (sz : Int) = (sz : Int) := IntWalk.i64_in _ (by omega)
 have w3 : (8 : Int) + (r : Int) = (sz : Int) := by omega
 have HSZ : Hid (8 ≤ sz ∧ sz ≤ 67) := Lib.hid (by omega)
 clear hL hm hS hl hg hr60 hsz
 go_enter Tryz.func4, Tryz.ntmps4
 go_wp2_with fail
 refine HAL.out.mono ?_
 rintro e w1 ⟨rfl, hN1⟩
 have HN1 := Lib.hid hN1
 clear hN1 HAL
 go_wp2_with fail
 refine (aw_long A m c L w1 (HN1.out.rd HS.out |>.imp fun k hk => by have := HN1.out.size; omega) HLL.out HMX.out (fun x hx => (HG.out x hx).new HN1.out)).mono ?_
 rintro e w4 ⟨⟨lb, rfl, hlb⟩, hN4⟩
 have HN4 : Hid (New W w4) := Lib.hid (HN1.out.tr hN4)
 have HLB := Lib.hid hlb
 clear hN4 hlb HN1 HMX
 rcases lb with _ | _
 rotate_left
 · go_wp2_with fail
   go_ret
   exact ⟨rfl, HN4.out⟩
 have HM : Hid (m ≤ 25 ∧ ∀ x ∈ L, x.b.n ≤ 30) := Lib.hid (HLB.out rfl)
 clear HLB
 go_wp2_with fail
 refine (dnew_l HN4.out sz (by have := HSZ.out; omega) (by have := HSZ.out; omega)).mono ?_
 rintro e w5 ⟨gd, rfl, hD, -⟩
 have HFM := Lib.hid (fmt_k hD HL.out (by have := HSZ.out; omega) HSZ.out.2)
 clear hD HN4
 go_wp2_with fail
 refine HFM.out.mono ?_
 rintro e w6 ⟨rfl, ho⟩
 have HOP := Lib.hid ho
 clear ho HFM
 go_wp2_with fail
 refine HOP.out.mono ?_
 rintro e w7 ⟨gs, bs, bf, bt, s, K, mm, rfl, hSt, hp, hz, hgn, hmm⟩
 have HST := Lib.hid hSt
 have HSE := Lib.hid (And.intro hp (And.intro hz (And.intro hgn hmm)))
 clear hSt hp hz hgn hmm HOP
 go_wp2_with fail
 refine (new_any W.heap.size w7 HST.out.nw.size).mono ?_
 rintro e w8 ⟨g8, b8, rfl, hT, hN, -, hb8⟩
 have HK0 : Hid (KI W w8 gs gd bs bf bt g8 b8 s K mm 0 sz) := Lib.hid (KI.start HST.out HSE.out.1 HSE.out.2.1 HSE.out.2.2.1 HSE.out.2.2.2 hN hT hb8)
 clear hT hN hb8 HST HSE
 go_wp2_with fail
 refine (new_any W.heap.size w8 HK0.out.st.nw.size).mono ?_
 rintro e w9 ⟨g9, b9, rfl, -, hN, -, -⟩
 have HKI : Hid (KI W w9 gs gd bs bf bt g8 b8 s K mm 0 sz) := Lib.hid (HK0.out.new hN)
 clear hN HK0
 go_wp2_with fail
 go_loopw [7, 8, 9, 46] (fun sv kv uv i wr => ∃ (j gs bs bf bt g8 b8 : Nat) (s : SW) (K : List (List Int)) (mm : Nat), Hid (j ≤ m) ∧ i = .int .i64 (j : Int) ∧ sv = .pointer (some ⟨gs, 0, none⟩) ∧ kv = .pointer (some ⟨g8, 0, none⟩) ∧ Hid (KI W wr gs gd bs bf bt g8 b8 s K mm j sz)) (fun _ _ _ i _ => m - (intOf i).toNat)
 case atStart => exact ⟨0, gs, bs, bf, bt, g8, b8, s, K, mm, Lib.hid (Nat.zero_le _), rfl, rfl, rfl, HKI⟩
 case round =>
  clear HKI w1 w2 w3 hr
  obtain ⟨j, gs, bs, bf, bt, g8, b8, s, K, mm, HJ, rfl, rfl, rfl, HI⟩ := hrel
  by_cases hj : j < m
  · have hlt : (j : Int) < (m : Int) := by omega
    have hj0 : (0 : Int) ≤ (j : Int) := by omega
    have HJ2 := Lib.hid hj
    have HJM : Hid (j ≤ 25) := Lib.hid (by have := HM.out.1; omega)
    have e1 : IntKind.i64.wrap ((j : Int) + 1) = (j : Int) + 1 := IntWalk.i64_in _ (by have := HM.out.1; omega)
    obtain ⟨g, o, hl, rfl, -, -, hrg⟩ := rd_row (f := AW.cells) (L := L) (fun _ => rfl) (by omega) (HI.out.st.nw.rd HS.out) hj
    have c0 : wr.cell? ⟨g, o + j * 5, none⟩ = some (.int .i64 L[j].kind) := hrg 0 _ rfl
    have c1 := hrg 1 _ rfl
    have c2 := hrg 2 _ rfl
    have c3 := hrg 3 _ rfl
    have c4 := hrg 4 _ rfl
    have HXG : Hid (L[j].Good W) := Lib.hid (HG.out _ (List.getElem_mem _))
    have HXN : Hid (L[j].b.n ≤ 30) := Lib.hid (HM.out.2 _ (List.getElem_mem _))
    generalize L[j] = x at c0 c1 c2 c3 c4 HXG HXN
    obtain ⟨kd, nm1, ⟨xA, xn, xc, xs⟩, bits, yA, yn, yc, ys⟩ := x
    obtain ⟨bn, rfl⟩ : ∃ bn : Nat, bits = (bn : Int) := ⟨bits.toNat, by have h := (bounds_u64 HXG.out.bits).1; dsimp only at h; omega⟩
    dsimp only at c0 c1 c2 c3 c4
    clear hj hrg hl
    go_upto_region 15 with fail
    obtain ⟨w7, hw7⟩ : ∃ w7 : World, w7 = wr.alloc (.cells #[.int .i64 kd, .int .i64 nm1, .slice xA xn xc, .int .u64 (bn : Int), .slice yA yn yc] 56) := ⟨_, rfl⟩
    obtain ⟨b12, hb12⟩ : ∃ b12, b12 = wr.heap.size := ⟨_, rfl⟩
    have HI7 : Hid (KI W w7 gs gd bs bf bt g8 b8 s K mm j sz) := Lib.hid (HI.out.new (by rw [hw7]; exact New.al (New.refl _) _))
    have HB12 : Hid (Blk w7 b12 56 #[.int .i64 kd, .int .i64 nm1, .slice xA xn xc, .int .u64 (bn : Int), .slice yA yn yc]) := Lib.hid (by rw [hw7, hb12]; exact Blk.new _ _ _)
    rw [← hw7, ← hb12]
    clear hw7 hb12 HI c0 c1 c2 c3 c4
    have x0 : w7.cell? ⟨b12, 0, none⟩ = some (.int .i64 kd) := HB12.out.cell 0
    have x1 : w7.cell? ⟨b12, 1, none⟩ = some (.int .i64 nm1) := HB12.out.cell 1
    have x2 : w7.cell? ⟨b12, 2, none⟩ = some (.slice xA xn xc) := HB12.out.cell 2
    have x3 : w7.cell? ⟨b12, 3, none⟩ = some (.int .u64 (bn : Int)) := HB12.out.cell 3
    have x4 : w7.cell? ⟨b12, 4, none⟩ = some (.slice yA yn yc) := HB12.out.cell 4
    go_upto_block 2 with fail
    obtain ⟨q, hq⟩ : ∃ q, q = (IntKind.u64.wrap kd).tmod 8 := ⟨_, rfl⟩
    rw [← hq]
    clear hq
    by_cases h4 : q = 4
    · subst h4
      go_wp2_with fail
      refine (sweep_k HI7.out HJM.out HL.out).mono ?_
      rintro e we ⟨v2, s2, K2, rfl, hK⟩
      have HKE := Lib.hid hK
      clear hK HI7 HB12 x0 x1 x2 x3 x4
      go_wp2_with fail
      refine (broken_any HKE.out.st.st).mono ?_
      rintro e wx ⟨rfl, rfl⟩
      obtain ⟨bk, hbk⟩ := nm s2.broken
      rw [← hbk]
      clear hbk
      cases bk with
      | true =>
       go_wp2_with fail
       go_roundw
       case rel => exact ⟨j + 1, _, _, _, _, _, _, _, _, _, Lib.hid (by have := HJ2.out; omega), by go_num, rfl, rfl, HKE⟩
       case measure => simp [intOf]; have := HJ2.out; omega
      | false =>
       have HSM := Lib.hid (same_k HKE.out (by have := HJ2.out; have := HM.out; omega))
       go_wp2_with fail
       refine HSM.out.mono ?_
       rintro e wt ⟨hNt, g9, rfl, hsm⟩
       have HSN := Lib.hid hsm
       clear hsm HSM
       go_wp2_with fail
       refine HSN.out.mono ?_
       rintro e wu ⟨rfl, hNu⟩
       have HKF := Lib.hid (HKE.out.new hNu (Nat.le_refl _))
       clear hNt hNu HSN
       go_wp2_with fail
       go_roundw
       case rel => exact ⟨j + 1, _, _, _, _, _, _, _, _, _, Lib.hid (by have := HJ2.out; omega), by go_num, rfl, rfl, HKF⟩
       case measure => simp [intOf]; have := HJ2.out; omega
    have z4 : decide (q = 4) = false := decide_eq_false h4
    by_cases h5 : q = 5
    · subst h5
      go_wp2_with fail
      refine (of_any_l18 bn w7).mono ?_
      rintro e wo ⟨rfl, rfl⟩
      go_wp2_with fail
      refine (tidy_k HI7.out HJM.out HL.out bn).mono ?_
      rintro e we ⟨v2, v3, s2, K2, rfl, hK⟩
      have HKE := Lib.hid hK
      clear hK HI7 HB12 x0 x1 x2 x3 x4
      go_wp2_with fail
      refine (broken_any HKE.out.st.st).mono ?_
      rintro e wx ⟨rfl, rfl⟩
      obtain ⟨bk, hbk⟩ := nm s2.broken
      rw [← hbk]
      clear hbk
      cases bk with
      | true =>
       go_wp2_with fail
       go_roundw
       case rel => exact ⟨j + 1, _, _, _, _, _, _, _, _, _, Lib.hid (by have := HJ2.out; omega), by go_num, rfl, rfl, HKE⟩
       case measure => simp [intOf]; have := HJ2.out; omega
      | false =>
       have HSM := Lib.hid (same_k HKE.out (by have := HJ2.out; have := HM.out; omega))
       go_wp2_with fail
       refine HSM.out.mono ?_
       rintro e wt ⟨hNt, g9, rfl, hsm⟩
       have HSN := Lib.hid hsm
       clear hsm HSM
       go_wp2_with fail
       refine HSN.out.mono ?_
       rintro e wu ⟨rfl, hNu⟩
       have HKF := Lib.hid (HKE.out.new hNu (Nat.le_refl _))
       clear hNt hNu HSN
       go_wp2_with fail
       go_roundw
       case rel => exact ⟨j + 1, _, _, _, _, _, _, _, _, _, Lib.hid (by have := HJ2.out; omega), by go_num, rfl, rfl, HKF⟩
       case measure => simp [intOf]; have := HJ2.out; omega
    have z5 : decide (q = 5) = false := decide_eq_false h5
    by_cases h6 : q = 6
    · subst h6
      go_wp2_with fail
      refine (cut_k HI7.out HL.out (by have := HSZ.out; omega) HSZ.out.2 yA yn yc ys (HI7.out.st.nw.rd HXG.out.rd2) HXG.out.n2 (fun k hk => hk)).mono ?_
      rintro e wc ⟨rfl, ho⟩
      have HOP := Lib.hid ho
      clear ho HI7 HB12 x0 x1 x2 x3 x4
      go_wp2_with fail
      refine HOP.out.mono ?_
      rintro e wd ⟨gs2, bt2, s2, K2, mm2, rfl, hK⟩
      have HKD := Lib.hid hK
      have HSM := Lib.hid (same_k hK (by have := HJM.out; omega))
      clear hK HOP
      go_wp2_with fail
      refine HSM.out.mono ?_
      rintro e wt ⟨-, g9, rfl, hsm⟩
      have HSN := Lib.hid hsm
      clear hsm HSM
      go_wp2_with fail
      refine HSN.out.mono ?_
      rintro e wu ⟨rfl, hNu⟩
      have HKF := Lib.hid (HKD.out.new hNu (Nat.le_refl _))
      clear hNu HSN HKD
      go_wp2_with fail
      refine (tab_k HKF.out).mono ?_
      rintro e wv ⟨g2, b2, rfl, -, hK⟩
      have HKG := Lib.hid hK
      clear hK HKF
      go_wp2_with fail
      refine (tab_k HKG.out).mono ?_
      rintro e ww ⟨g3, b3, rfl, hN, -⟩
      have HKE := Lib.hid (HKG.out.new hN (Nat.le_refl _))
      clear hN HKG
      go_wp2_with fail
      refine (broken_any HKE.out.st.st).mono ?_
      rintro e wx ⟨rfl, rfl⟩
      obtain ⟨bk, hbk⟩ := nm s2.broken
      rw [← hbk]
      clear hbk
      cases bk with
      | true =>
       go_wp2_with fail
       go_roundw
       case rel => exact ⟨j + 1, _, _, _, _, _, _, _, _, _, Lib.hid (by have := HJ2.out; omega), by go_num, rfl, rfl, HKE⟩
       case measure => simp [intOf]; have := HJ2.out; omega
      | false =>
       have HSM := Lib.hid (same_k HKE.out (by have := HJ2.out; have := HM.out; omega))
       go_wp2_with fail
       refine HSM.out.mono ?_
       rintro e wt ⟨hNt, g9, rfl, hsm⟩
       have HSN := Lib.hid hsm
       clear hsm HSM
       go_wp2_with fail
       refine HSN.out.mono ?_
       rintro e wu ⟨rfl, hNu⟩
       have HKF := Lib.hid (HKE.out.new hNu (Nat.le_refl _))
       clear hNt hNu HSN
       go_wp2_with fail
       go_roundw
       case rel => exact ⟨j + 1, _, _, _, _, _, _, _, _, _, Lib.hid (by have := HJ2.out; omega), by go_num, rfl, rfl, HKF⟩
       case measure => simp [intOf]; have := HJ2.out; omega
    have z6 : decide (q = 6) = false := decide_eq_false h6
    by_cases h7 : q = 7
    · subst h7
      go_wp2_with fail
      refine (fuse_k HI7.out nm1 HXG.out.num).mono ?_
      rintro e we ⟨rfl, s2, K2, hK⟩
      have HKE := Lib.hid hK
      clear hK HI7 HB12 x0 x1 x2 x3 x4
      go_wp2_with fail
      refine (broken_any HKE.out.st.st).mono ?_
      rintro e wx ⟨rfl, rfl⟩
      obtain ⟨bk, hbk⟩ := nm s2.broken
      rw [← hbk]
      clear hbk
      cases bk with
      | true =>
       go_wp2_with fail
       go_roundw
       case rel => exact ⟨j + 1, _, _, _, _, _, _, _, _, _, Lib.hid (by have := HJ2.out; omega), by go_num, rfl, rfl, HKE⟩
       case measure => simp [intOf]; have := HJ2.out; omega
      | false =>
       have HSM := Lib.hid (same_k HKE.out (by have := HJ2.out; have := HM.out; omega))
       go_wp2_with fail
       refine HSM.out.mono ?_
       rintro e wt ⟨hNt, g9, rfl, hsm⟩
       have HSN := Lib.hid hsm
       clear hsm HSM
       go_wp2_with fail
       refine HSN.out.mono ?_
       rintro e wu ⟨rfl, hNu⟩
       have HKF := Lib.hid (HKE.out.new hNu (Nat.le_refl _))
       clear hNt hNu HSN
       go_wp2_with fail
       go_roundw
       case rel => exact ⟨j + 1, _, _, _, _, _, _, _, _, _, Lib.hid (by have := HJ2.out; omega), by go_num, rfl, rfl, HKF⟩
       case measure => simp [intOf]; have := HJ2.out; omega
    have z7 : decide (q = 7) = false := decide_eq_false h7
    obtain ⟨bk0, hbk0⟩ := nm s.broken
    go_wp2_with fail
    refine (broken_any HI7.out.st.st).mono ?_
    rw [← hbk0]
    clear hbk0
    rintro e wx ⟨rfl, rfl⟩
    go_wp2_with fail
    refine (next_k HI7.out HJM.out xA xn xc xs HXG.out.b.tb HXG.out.b.gd HXN.out).mono ?_
    rintro e we ⟨g13, rfl, hN, ha⟩
    have HAP := Lib.hid ha
    have HX2 := Lib.hid x2
    clear x2
    have x2 := hN.cell_ HX2.out
    clear ha hN x0 x1 x3 x4 HB12
    go_wp2_with fail
    refine HAP.out.mono ?_
    rintro e wf ⟨hN, he⟩
    rcases he with rfl | ⟨rfl, b13, h13⟩
    · have HKF : Hid (KI W wf gs gd bs bf bt g8 b8 s K mm (j + 1) sz) := Lib.hid (HI7.out.new hN)
      clear hN HAP HI7 HX2 x2
      go_wp2_with fail
      go_roundw
      case rel => exact ⟨j + 1, _, _, _, _, _, _, _, _, _, Lib.hid (by have := HJ2.out; omega), by go_num, rfl, rfl, HKF⟩
      case measure => simp [intOf]; have := HJ2.out; omega
    have H13 := Lib.hid h13
    clear x2
    have HK1 : Hid (KI W wf gs gd bs bf bt g8 b8 s K mm j sz) := Lib.hid (HI7.out.new hN)
    have x2 : wf.cell? ⟨b12, 2, none⟩ = some (.slice xA xn xc) := hN.cell_ HX2.out
    clear hN h13 HAP HI7 HX2
    go_wp2_with fail
    refine (commit_k HK1.out HJM.out HL.out xA xn xc xs HXG.out.b.tb HXG.out.b.gd HXN.out H13.out).mono ?_
    rintro e wg ⟨a2, s2, K2, g2, b2, rfl, h0, h1, hK⟩
    by_cases ha : a2 = 0
    · rw [h0 ha] at hK
      have HKE := Lib.hid hK
      rw [ha, errD_0]
      clear hK h0 h1 ha HK1 H13 x2
      go_wp2_with fail
      refine (broken_any HKE.out.st.st).mono ?_
      rintro e wx ⟨rfl, rfl⟩
      obtain ⟨bk, hbk⟩ := nm s2.broken
      rw [← hbk]
      clear hbk
      cases bk with
      | true =>
       go_wp2_with fail
       go_roundw
       case rel => exact ⟨j + 1, _, _, _, _, _, _, _, _, _, Lib.hid (by have := HJ2.out; omega), by go_num, rfl, rfl, HKE⟩
       case measure => simp [intOf]; have := HJ2.out; omega
      | false =>
       have HSM := Lib.hid (same_k HKE.out (by have := HJ2.out; have := HM.out; omega))
       go_wp2_with fail
       refine HSM.out.mono ?_
       rintro e wt ⟨hNt, g9, rfl, hsm⟩
       have HSN := Lib.hid hsm
       clear hsm HSM
       go_wp2_with fail
       refine HSN.out.mono ?_
       rintro e wu ⟨rfl, hNu⟩
       have HKF := Lib.hid (HKE.out.new hNu (Nat.le_refl _))
       clear hNt hNu HSN
       go_wp2_with fail
       go_roundw
       case rel => exact ⟨j + 1, _, _, _, _, _, _, _, _, _, Lib.hid (by have := HJ2.out; omega), by go_num, rfl, rfl, HKF⟩
       case measure => simp [intOf]; have := HJ2.out; omega
    · rw [h1 ha] at hK
      have HKE := Lib.hid hK
      rw [errD_n ha]
      clear hK h0 h1 ha HK1 H13 x2
      cases bk0 with
      | true =>
       go_wp2_with fail
       refine (broken_any HKE.out.st.st).mono ?_
       rintro e wx ⟨rfl, rfl⟩
       obtain ⟨bk, hbk⟩ := nm s2.broken
       rw [← hbk]
       clear hbk
       cases bk with
       | true =>
        go_wp2_with fail
        go_roundw
        case rel => exact ⟨j + 1, _, _, _, _, _, _, _, _, _, Lib.hid (by have := HJ2.out; omega), by go_num, rfl, rfl, HKE⟩
        case measure => simp [intOf]; have := HJ2.out; omega
       | false =>
        have HSM := Lib.hid (same_k HKE.out (by have := HJ2.out; have := HM.out; omega))
        go_wp2_with fail
        refine HSM.out.mono ?_
        rintro e wt ⟨hNt, g9, rfl, hsm⟩
        have HSN := Lib.hid hsm
        clear hsm HSM
        go_wp2_with fail
        refine HSN.out.mono ?_
        rintro e wu ⟨rfl, hNu⟩
        have HKF := Lib.hid (HKE.out.new hNu (Nat.le_refl _))
        clear hNt hNu HSN
        go_wp2_with fail
        go_roundw
        case rel => exact ⟨j + 1, _, _, _, _, _, _, _, _, _, Lib.hid (by have := HJ2.out; omega), by go_num, rfl, rfl, HKF⟩
        case measure => simp [intOf]; have := HJ2.out; omega
      | false =>
       go_wp2_with fail
       refine (broken_any HKE.out.st.st).mono ?_
       obtain ⟨bk1, hbk1⟩ := nm s2.broken
       rw [← hbk1]
       clear hbk1
       rintro e wy ⟨rfl, rfl⟩
       cases bk1 with
       | true =>
        go_wp2_with fail
        refine (broken_any HKE.out.st.st).mono ?_
        rintro e wx ⟨rfl, rfl⟩
        obtain ⟨bk, hbk⟩ := nm s2.broken
        rw [← hbk]
        clear hbk
        cases bk with
        | true =>
         go_wp2_with fail
         go_roundw
         case rel => exact ⟨j + 1, _, _, _, _, _, _, _, _, _, Lib.hid (by have := HJ2.out; omega), by go_num, rfl, rfl, HKE⟩
         case measure => simp [intOf]; have := HJ2.out; omega
        | false =>
         have HSM := Lib.hid (same_k HKE.out (by have := HJ2.out; have := HM.out; omega))
         go_wp2_with fail
         refine HSM.out.mono ?_
         rintro e wt ⟨hNt, g9, rfl, hsm⟩
         have HSN := Lib.hid hsm
         clear hsm HSM
         go_wp2_with fail
         refine HSN.out.mono ?_
         rintro e wu ⟨rfl, hNu⟩
         have HKF := Lib.hid (HKE.out.new hNu (Nat.le_refl _))
         clear hNt hNu HSN
         go_wp2_with fail
         go_roundw
         case rel => exact ⟨j + 1, _, _, _, _, _, _, _, _, _, Lib.hid (by have := HJ2.out; omega), by go_num, rfl, rfl, HKF⟩
         case measure => simp [intOf]; have := HJ2.out; omega
       | false =>
        go_wp2_with fail
        refine (broken_any HKE.out.st.st).mono ?_
        rintro e wx ⟨rfl, rfl⟩
        obtain ⟨bk, hbk⟩ := nm s2.broken
        rw [← hbk]
        clear hbk
        cases bk with
        | true =>
         go_wp2_with fail
         go_roundw
         case rel => exact ⟨j + 1, _, _, _, _, _, _, _, _, _, Lib.hid (by have := HJ2.out; omega), by go_num, rfl, rfl, HKE⟩
         case measure => simp [intOf]; have := HJ2.out; omega
        | false =>
         have HSM := Lib.hid (same_k HKE.out (by have := HJ2.out; have := HM.out; omega))
         go_wp2_with fail
         refine HSM.out.mono ?_
         rintro e wt ⟨hNt, g9, rfl, hsm⟩
         have HSN := Lib.hid hsm
         clear hsm HSM
         go_wp2_with fail
         refine HSN.out.mono ?_
         rintro e wu ⟨rfl, hNu⟩
         have HKF := Lib.hid (HKE.out.new hNu (Nat.le_refl _))
         clear hNt hNu HSN
         go_wp2_with fail
         go_roundw
         case rel => exact ⟨j + 1, _, _, _, _, _, _, _, _, _, Lib.hid (by have := HJ2.out; omega), by go_num, rfl, rfl, HKF⟩
         case measure => simp [intOf]; have := HJ2.out; omega
  · have hge : ¬ ((j : Int) < (m : Int)) := by omega
    clear hj
    go_wp2_with fail
    go_ret
    exact ⟨rfl, HI.out.st.nw⟩
theorem keeps_lawS {v1 : Value} {W : World} (a : Int) (wa : (Lit.int .i64 a).wf = true) (o1 : ∃ (A : Option Addr) (n c : Nat) (L : List AW), v1 = .slice A n c ∧ n ≤ maxLen ∧ L.length = n ∧ Rd (fun b => b < W.heap.size) W 5 A n (L.flatMap AW.cells) ∧ ∀ a ∈ L, a.Good W)
    (hL : laidMetH Tryz.prog [("entrust/sha.constants", Rows.laid_entrust_sha_constants), ("entrust/sha.initials", Rows.laid_entrust_sha_initials)] W) :
    Calls Tryz.prog 4 #[.int .i64 a, v1] W fun e w' => e = .returned (.bool true) ∧ Below W.heap.size W w' := by
 obtain ⟨A, m, c, L, rfl, hm, hl, hS, hg⟩ := o1
 exact swkeeps_main a A m c L W (sha_live hL) hm hS hl hg
end Go.Proofs.YtfchcdbfalgdlaaGreatDoor
