/- Texts of one proof, one behind the other: Alc, LkX, OpenA, DkJ. No condition but each one's own. -/
import Derived.Test.YteeclfejgpgooaaDoorLogPlaysM4
import Derived.Test.YteeclfejgpgooaaDoorLogPlaysM1
import Derived.Test.YteeclfejgpgooaaDoorLogPlaysM22
import Derived.Test.YteeclfejgpgooaaDoorLogPlaysM9
import Derived.OpenShut
import Derived.Test.YteeclfejgpgooaaDoorLogPlaysM11
/- A row's zero value, made, in a straight list of operations: the block and its world come as letters. No condition. -/
namespace Go.Proofs.YteeclfejgpgooaaDoor
set_option linter.unusedVariables false
set_option linter.unusedSimpArgs false
set_option linter.constructorNameAsVariable false
open Go.RowKit

theorem wpList_alloc_row {P : Program} {ops : Array Oper} {Q : Exit → Act → World → Prop} {rest : List Oper} {o : Oper} {a : Act} {w : World} {T : TypeId} {n : Nat} {zs : Array Value} (hg1 : o.guard = none) (ho : o.op = .alloc T) (hZ : (P.info? T).map (fun i => (i.zero, i.size)) = some (some (.agg zs), n))
    (h : ∀ b w', b = w.heap.size → Blk w' b T zs → New w w' → wpList P ops Q rest (a.put o.dst (.pointer (some ⟨b, 0, none⟩))) w') : wpList P ops Q (o :: rest) a w := by
  obtain ⟨z1, z2⟩ := zero_of_info hZ
  refine wpList_plain hg1 fun K' hK' => ?_
  have hal : (Instr.alloc T true (.tuple #[])).run P w = .ok (.pointer (some ⟨w.heap.size, 0, none⟩)) (w.alloc (.cells zs T)) := by
    unfold Instr.alloc
    simp [Sem.run_bind, z1 w, newVar, newRow, go_sem, Result.andThen, Value.cells]
  unfold Oper.wp
  simp only [execOp, ho, hal, Result.andThen_ok, Sem.run_bind, Sem.run_pure]
  exact hK' _ _ (h _ _ rfl (Blk.new _ _ _) (New.al (New.refl _) _))
end Go.Proofs.YteeclfejgpgooaaDoor
/- LogPlays: what stands in memory beside the live log; a log's small answers. No condition. -/
namespace Go.Proofs.YteeclfejgpgooaaDoor
set_option linter.unusedVariables false
set_option linter.unusedSimpArgs false
set_option linter.constructorNameAsVariable false
open Go.RowKit Go.Sort

section
variable {W w w' : World} {gd gl : Nat} {p : DP} {l : LG}
theorem Lgl.st (h : Lgl W w gd gl p l) {b t : Nat} {cs : Array Value} (hb : Blk w b t cs) (hF : Fr (fun x => x = b) w w') (hlt : W.heap.size ≤ b) (e1 : t ≠ 100) (e2 : t ≠ 88) (e3 : t ≠ 3) : Lgl W w' gd gl p l := by
  obtain ⟨bs, bf, v, h1, h2, h3, h4⟩ := h
  refine ⟨bs, bf, v, h1.fr hF (fun x hx => ?_), h2.fr hF (fun hx => Blk.ne_ hb h2.blk e1 hx.symm), h3, h4.fr hF (fun x hx => by rw [show x = b from hx]; exact hlt)⟩
  rw [show x = b from hx]
  exact dk_notBlk h1 hb (fun e => Blk.ne_ hb h1.blk e2 e) e3
theorem Dkl.st (h : Dkl W w gd p) {b t : Nat} {cs : Array Value} (hb : Blk w b t cs) (hF : Fr (fun x => x = b) w w') (hlt : W.heap.size ≤ b) (e2 : t ≠ 88) (e3 : t ≠ 3) : Dkl W w' gd p := by
  obtain ⟨bs, bf, v, h1, h4⟩ := h
  refine ⟨bs, bf, v, h1.fr hF (fun x hx => ?_), h4.fr hF (fun x hx => by rw [show x = b from hx]; exact hlt)⟩
  rw [show x = b from hx]
  exact dk_notBlk h1 hb (fun e => Blk.ne_ hb h1.blk e2 e) e3
end
/-- The reference's disk and log, and the records of both sides. -/
structure Rest (W w : World) (b9 b12 : Nat) (r : RP) (A1 : Option Addr) (c1 : Nat) (A2 : Option Addr) (c2 : Nat) (l : LG) (B : Option Addr) (c : Nat) (va vw : Value) (R : List (List Int)) : Prop where
  rf : RfIn w r A1 A2
  b9 : Blk w b9 32 (RfV r A1 c1 A2 c2)
  rl : RlIn w l B
  b12 : Blk w b12 45 (rlV l B c)
  ra : RecsK W.heap.size w va R
  rw_ : RecsK W.heap.size w vw R
section
variable {W w w' : World} {b9 b12 : Nat} {r r' : RP} {A1 A2 B1 B2 : Option Addr} {c1 c2 d1 d2 : Nat} {l l' : LG} {B B' : Option Addr} {c c' : Nat} {va vw : Value} {R : List (List Int)}
theorem Rest.new (h : Rest W w b9 b12 r A1 c1 A2 c2 l B c va vw R) (hN : New w w') : Rest W w' b9 b12 r A1 c1 A2 c2 l B c va vw R :=
  ⟨h.rf.new hN, hN.blk h.b9, h.rl.new hN, hN.blk h.b12, h.ra.new hN, h.rw_.new hN⟩
theorem Rest.kpl (h : Rest W w b9 b12 r A1 c1 A2 c2 l B c va vw R) (hK : Kpl W w w') : Rest W w' b9 b12 r A1 c1 A2 c2 l B c va vw R := by
  obtain ⟨S, hF, hS, hT⟩ := hK.fr
  exact ⟨h.rf.fr hF (hT _ (by decide) (by decide) (by decide)), hK.blk h.b9 (by decide) (by decide) (by decide), h.rl.fr hF (hT _ (by decide) (by decide) (by decide)), hK.blk h.b12 (by decide) (by decide) (by decide), h.ra.kpl hK, h.rw_.kpl hK⟩
theorem RecsK.st {B : Nat} {v : Value} {L : List (List Int)} (h : RecsK B w v L) {b t : Nat} {cs : Array Value} (hb : Blk w b t cs) (hF : Fr (fun x => x = b) w w') (hlt : B ≤ b) (e1 : t ≠ 5) (e2 : t ≠ 43) : RecsK B w' v L :=
  h.fr hF (fun k hk => by rw [show k = b from hk]; exact ⟨hlt, IsT.not_blk hb e1, IsT.not_blk hb e2⟩)
theorem Rest.set9 (h : Rest W w b9 b12 r A1 c1 A2 c2 l B c va vw R) (hR : RfIn w r' B1 B2) (hb : Blk w' b9 32 (RfV r' B1 d1 B2 d2)) (hF : Fr (fun x => x = b9) w w') (hlt : W.heap.size ≤ b9) : Rest W w' b9 b12 r' B1 d1 B2 d2 l B c va vw R :=
  ⟨hR.fr hF (fun k hk => by rw [show k = b9 from hk]; exact IsT.not_blk h.b9 (by decide)), hb, h.rl.fr hF (fun k hk => by rw [show k = b9 from hk]; exact IsT.not_blk h.b9 (by decide)), h.b12.fr hF (fun e => Blk.ne_ h.b12 h.b9 (by decide) e), h.ra.st h.b9 hF hlt (by decide) (by decide), h.rw_.st h.b9 hF hlt (by decide) (by decide)⟩
theorem Rest.set12 (h : Rest W w b9 b12 r A1 c1 A2 c2 l B c va vw R) (hR : RlIn w l' B') (hb : Blk w' b12 45 (rlV l' B' c')) (hF : Fr (fun x => x = b12) w w') (hlt : W.heap.size ≤ b12) : Rest W w' b9 b12 r A1 c1 A2 c2 l' B' c' va vw R :=
  ⟨h.rf.fr hF (fun k hk => by rw [show k = b12 from hk]; exact IsT.not_blk h.b12 (by decide)), h.b9.fr hF (fun e => Blk.ne_ h.b9 h.b12 (by decide) e), hR.fr hF (fun k hk => by rw [show k = b12 from hk]; exact IsT.not_blk h.b12 (by decide)), hb, h.ra.st h.b12 hF hlt (by decide) (by decide), h.rw_.st h.b12 hF hlt (by decide) (by decide)⟩
theorem Rest.rows (h : Rest W w b9 b12 r A1 c1 A2 c2 l B c va vw R) {va' vw' : Value} {R' : List (List Int)} (h1 : RecsK W.heap.size w va' R') (h2 : RecsK W.heap.size w vw' R') : Rest W w b9 b12 r A1 c1 A2 c2 l B c va' vw' R' := ⟨h.rf, h.b9, h.rl, h.b12, h1, h2⟩
end
set_option maxHeartbeats 2000000
set_option maxRecDepth 100000
theorem tag_any {w : World} {gl gd n : Nat} {l : LG} (h : Lg w gl gd l n) : Calls Tryd.prog 28 #[.pointer (some ⟨gl, 0, none⟩)] w fun e w' => e = .returned (.agg (secA l.tag)) ∧ New w w' := by
  have H := Lib.hid h
  obtain ⟨tg, htg⟩ : ∃ tg, tg = l.tag := ⟨_, rfl⟩
  have HT : Hid (tg = l.tag ∧ tg.length = 16) := Lib.hid ⟨htg, by rw [htg]; exact h.ok.len⟩
  rw [← htg]
  obtain ⟨SA, hSA⟩ : ∃ SA, SA = secA tg := ⟨_, rfl⟩
  have HSA : Hid (SA = secA tg ∧ SA.size = 16 ∧ SA.all (·.oneCell') = true) := Lib.hid (by rw [hSA]; exact ⟨rfl, by rw [secA_size, HT.out.2], secA_one _⟩)
  rw [← hSA]
  clear h htg hSA
  go_enter Tryd.func28, Tryd.ntmps28
  go_upto_region 1 with ((with_reducible refine atOp ⟨some 2, .alloc _, _, _, _, _⟩ ?_); refine wpList_alloc_row rfl rfl tagInfo ?_; intro b2 w1 hb hB hN; have HB2 := Lib.hid hB; have HN1 := Lib.hid hN; have HZ := Lib.hid hb; clear hb hB hN)
  have HG : Hid (∀ o : Unit, w1.rangeAt gl 5 (u8s tg)) := Lib.hid fun _ => by rw [HT.out.1]; exact (H.out.new HN1.out).tagAt
  go_wp2_with (first
    | ((with_reducible refine atOp ⟨some 9, .load _ _, _, _, _, _⟩ ?_); refine wpList_load_range rfl _ rfl rfl (HG.out ()) Tryd.underlying65 rfl (by rw [u8s_len, HT.out.2]; rfl) ?_)
    | ((with_reducible refine atOp ⟨none, .store 65 (.tmp 2) _, _, _, _, _⟩ ?_); refine wpList_store_any (cs := SA) rfl (.tmp 2) (.tmp 9) rfl (by rw [HSA.out.2.1]; rfl) rfl (by rw [HSA.out.1]; rfl) HB2.out (by rw [HSA.out.2.1, secA_size, List.length_replicate]) HSA.out.2.2 ?_; intro w2 hb hf; have HB22 := Lib.hid hb; have HF2 := Lib.hid hf; clear hb hf))
  exact bodyPost_ret (v := .agg SA) (results_rowA rfl _ _ b2 _ _ rfl HB22.out Tryd.underlying65 rfl (by rw [HSA.out.2.1]; rfl)) rfl ⟨rfl, HN1.out.fr HF2.out (fun k hk => by have := HZ.out; have hk' : k = b2 := hk; omega)⟩
theorem size_any {w : World} {gl gd n : Nat} {l : LG} (h : Lg w gl gd l n) : Calls Tryd.prog 26 #[.pointer (some ⟨gl, 0, none⟩)] w fun e w' => e = .returned (.int .i64 l.size) ∧ w = w' := by
  have c2 := h.c2
  obtain ⟨s, hs⟩ : ∃ s, s = l.size := ⟨_, rfl⟩
  rw [← hs] at c2
  rw [← hs]
  clear h hs
  go_enter Tryd.func26, Tryd.ntmps26
  go_wp2_with fail
  go_ret
  exact ⟨rfl, rfl⟩
theorem gen_any {w : World} {gl gd n : Nat} {l : LG} (h : Lg w gl gd l n) : Calls Tryd.prog 27 #[.pointer (some ⟨gl, 0, none⟩)] w fun e w' => e = .returned (.int .u32 l.gen) ∧ w = w' := by
  have c3 := h.c3
  obtain ⟨s, hs⟩ : ∃ s, s = l.gen := ⟨_, rfl⟩
  rw [← hs] at c3
  rw [← hs]
  clear h hs
  go_enter Tryd.func27, Tryd.ntmps27
  go_wp2_with fail
  go_ret
  exact ⟨rfl, rfl⟩
end Go.Proofs.YteeclfejgpgooaaDoor
/- Arrays and structs that come by value, opened. No condition. -/
namespace Go.Proofs.YteeclfejgpgooaaDoor
set_option linter.unusedVariables false
set_option linter.unusedSimpArgs false
set_option linter.constructorNameAsVariable false
open Go.RowKit Go.WideShapes Go.ChangeShapes

section
variable {P : Program} {H : Type} {enc : TypeId × Value → H} {w : World}
theorem okWide_array {r : Reach} {b0 : Nat} {t e : TypeId} {n : Nat} {v : Value} (ht : P.underlying t = some (.array n e)) (h : Value.okWide P w r b0 t v) : ∃ cs : Array Value, v = .agg cs ∧ cs.size = P.cellsOf t := by
  unfold Value.okWide at h
  rw [ht] at h
  obtain ⟨cs, h1, h2, _⟩ := h
  exact ⟨cs, h1, h2⟩
/-- An array of one-cell elements: its cells, each as it reads. -/
theorem open_array {r : Reach} {b0 : Nat} {t e : TypeId} {n : Nat} {v : Value} {d : DataW H} {p : List MemPlace} (ht : P.underlying t = some (.array n e)) (hc : P.cellsOf t = n) (he : P.cellsOf e = 1)
    (hv : Value.okWide P w r b0 t v) (h : DataW.Trod enc P w 0 (fun _ => true) true t v d p) :
    ∃ cs : List Value, v = .agg cs.toArray ∧ cs.length = n ∧ ∀ (i : Nat) (hi : i < cs.length), ∃ m y, DataW.trod enc P w 0 (fun _ => true) true m e [cs[i]] = some y := by
  obtain ⟨a, rfl, hsz⟩ := okWide_array ht hv
  obtain ⟨fuel, hf⟩ := h
  obtain ⟨xs, m, _, _, _, hl, hg⟩ := DataW.trod_array ht hf
  refine ⟨a.toList, by simp, by simp [hsz, hc], fun i hi => ?_⟩
  have hi' : i < n := by simp at hi; omega
  have := hg i hi'
  rw [he, Nat.mul_one] at this
  have hx : i < xs.length := by omega
  rw [List.getElem?_eq_getElem hx, show (Value.agg a).cells.toList = a.toList from rfl, List.drop_eq_getElem_cons hi] at this
  exact ⟨m, _, this⟩
end
end Go.Proofs.YteeclfejgpgooaaDoor
/- The disk's acts, opened. No condition. -/
namespace Go.Proofs.YteeclfejgpgooaaDoor
set_option linter.unusedVariables false
set_option linter.unusedSimpArgs false
set_option linter.constructorNameAsVariable false
open Go.RowKit Go.WideShapes Go.ChangeShapes

/-- An act as it lies in memory. -/
structure AC where
  kind : Int
  pos : Int
  s : List Int
  A : Option Addr
  n : Nat
  c : Nat
  keep : List Bool
def AC.cells (a : AC) : List Value := [.int .i64 a.kind, .int .i64 a.pos] ++ u8s a.s ++ [.slice a.A a.n a.c]
structure AC.Good (w : World) (a : AC) : Prop where
  kind : (Lit.int .i64 a.kind).wf = true
  pos : (Lit.int .i64 a.pos).wf = true
  s : SecOk a.s
  n : a.n ≤ maxLen
  rd : Rd (fun b => b < w.heap.size) w 1 a.A a.n (bools a.keep)
theorem AC.len {a : AC} (h : SecOk a.s) : a.cells.length = 67 := by simp [AC.cells, u8s_len, h.1]
theorem AC.one (a : AC) : ∀ u ∈ a.cells, u.oneCell' = true := by
  intro u hu
  simp only [AC.cells, List.mem_append, List.mem_cons, List.not_mem_nil, or_false] at hu
  rcases hu with ((rfl | rfl) | hu) | rfl
  · rfl
  · rfl
  · exact u8s_one _ u hu
  · rfl
theorem AC.at0 (a : AC) : a.cells[0]? = some (.int .i64 a.kind) := rfl
theorem AC.at1 (a : AC) : a.cells[1]? = some (.int .i64 a.pos) := rfl
theorem AC.atS {a : AC} (j : Nat) (u : Value) (h : (u8s a.s)[j]? = some u) : a.cells[2 + j]? = some u := by
  have hj : j < (u8s a.s).length := (List.getElem?_eq_some_iff.1 h).1
  unfold AC.cells
  rw [List.append_assoc, List.getElem?_append_right (by simp), List.getElem?_append_left (by simp; omega)]
  simpa using h
theorem AC.at66 {a : AC} (h : SecOk a.s) : a.cells[66]? = some (.slice a.A a.n a.c) := by
  unfold AC.cells
  rw [List.getElem?_append_right (by simp [u8s_len, h.1])]
  simp [u8s_len, h.1]

section
variable {H : Type} {enc : TypeId × Value → H} {w : World}
set_option maxRecDepth 100000 in
theorem trod_secs {m : Nat} {cs : List Value} {y : DataW H × List MemPlace} (hl : cs.length = 64) (ht : DataW.trod enc Tryd.prog w 0 (fun _ => true) true m 35 cs = some y) : ∃ s, cs = u8s s ∧ SecOk s := by
  obtain ⟨xs, m', _, _, _, hx, hg⟩ := DataW.trod_array Tryd.underlying35 ht
  have hc : Tryd.prog.cellsOf 5 = 1 := by kernel_rfl
  have key : ∀ k, k ≤ 64 → ∃ s : List Int, cs.take k = u8s s ∧ Byt s := by
    intro k
    induction k with
    | zero => exact fun _ => ⟨[], rfl, fun x hx => by cases hx⟩
    | succ k ih =>
      intro hk
      obtain ⟨s, hs, hb⟩ := ih (by omega)
      have h1 := hg k (by omega)
      rw [hc, Nat.mul_one] at h1
      have hlt : k < cs.length := by omega
      rw [List.drop_eq_getElem_cons hlt, List.getElem?_eq_getElem (by omega)] at h1
      obtain ⟨a, e, _, g⟩ := DataW.trod_int Tryd.underlying5 h1
      rw [List.take_succ_cons, List.take_zero] at e
      injection e with e _
      have := bounds_u8 g
      refine ⟨s ++ [a], by rw [List.take_succ_eq_append_getElem hlt, hs, e]; simp [u8s], fun z hz => ?_⟩
      rcases List.mem_append.1 hz with hz | hz
      · exact hb z hz
      · simp at hz; omega
  obtain ⟨s, hs, hb⟩ := key 64 (by omega)
  rw [List.take_of_length_le (by omega)] at hs
  exact ⟨s, hs, by rw [← hl, hs, u8s_len], hb⟩
set_option maxRecDepth 100000 in
theorem trod_bools {fuel : Nat} {v : Value} {y : DataW H × List MemPlace} (h : DataW.trod enc Tryd.prog w 0 (fun _ => true) true fuel 71 [v] = some y) (hs : Sz Tryd.prog 71 y.1) :
    ∃ (A : Option Addr) (n c : Nat) (xs : List Bool), v = .slice A n c ∧ n ≤ maxLen ∧ Rd (fun b => b < w.heap.size) w 1 A n (bools xs) := by
  obtain ⟨A, n, c, L, h1, h2, h3, h4, h5, h6, h7, -⟩ := trod_slk (k := 1) Tryd.underlying71 (fun x : Bool => [Value.bool x]) (by kernel_rfl) (by omega) (fun _ => True) (fun cs m y hl ht' _ => by
    obtain ⟨a, rfl, _⟩ := DataW.trod_bool Tryd.underlying4 ht'
    exact ⟨a, rfl, trivial⟩) h hs
  refine ⟨A, n, c, L, h1, by omega, ?_⟩
  rwa [show L.flatMap (fun x => [Value.bool x]) = bools L from List.map_eq_flatMap.symm] at h6
set_option maxRecDepth 100000 in
theorem open_bools {r : Reach} {b0 : Nat} {v : Value} {d : DataW H} {p : List MemPlace} (hv : Value.okWide Tryd.prog w r b0 71 v) (h : DataW.Trod enc Tryd.prog w 0 (fun _ => true) true 71 v d p) (hz : Sz Tryd.prog 71 d) :
    ∃ (A : Option Addr) (n c : Nat) (xs : List Bool), v = .slice A n c ∧ n ≤ maxLen ∧ Rd (fun b => b < w.heap.size) w 1 A n (bools xs) := by
  obtain ⟨a0, n0, c0, rfl⟩ := okWide_slice Tryd.underlying71 hv
  obtain ⟨fuel, hf⟩ := h
  exact trod_bools hf hz
end
/-- An act of a script. -/
theorem rd_act {p : Nat → Prop} {w : World} {A : Option Addr} {n : Nat} {L : List AC} (h : Rd p w 67 A n (L.flatMap AC.cells)) (hL : L.length = n) (hg : ∀ a ∈ L, SecOk a.s) {i : Nat} (hi : i < n) :
    ∃ (g o : Nat) (hl : i < L.length), A = some ⟨g, o, none⟩ ∧ g < w.heap.size ∧ w.rangeAt g (o + i * 67) (L[i].cells) := by
  obtain ⟨g, o, hA, hp, hgs, hc⟩ := h.out (by omega) (by omega)
  have hl : i < L.length := by omega
  refine ⟨g, o, hl, hA, hgs, fun j v hv => ?_⟩
  have hj : j < 67 := by
    have := (List.getElem?_eq_some_iff.1 hv).1
    rwa [AC.len (hg _ (List.getElem_mem _))] at this
  have := fm_get AC.cells 67 L i j hl (fun x hx => AC.len (hg x hx)) hj
  rw [Nat.add_assoc]
  exact hc (i * 67 + j) v (by rw [this, hv])
end Go.Proofs.YteeclfejgpgooaaDoor
