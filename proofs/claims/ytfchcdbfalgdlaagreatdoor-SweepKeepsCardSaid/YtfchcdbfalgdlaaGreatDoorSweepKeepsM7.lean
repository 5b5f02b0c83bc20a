/- Texts of one proof, one behind the other: MapB, Open, OpenS, DkP, DkA, DkB. No condition but each one's own. -/
import Derived.Test.YtfchcdbfalgdlaaGreatDoorSweepKeepsM4
import Derived.Test.YtfchcdbfalgdlaaGreatDoorSweepKeepsM1
import Derived.Lib.SlMapMerge
import Derived.Maps.RangeWalk
import Derived.Shelf.SlMaps.Clone
import Derived.Deep.Slices
import Derived.Deep.Fields
import Derived.OpenShut
import Derived.SizedLaws
import Derived.Test.YtfchcdbfalgdlaaGreatDoorSweepKeepsM3
namespace Go.Proofs.YtfchcdbfalgdlaaGreatDoor
set_option linter.unusedVariables false
set_option linter.unusedSimpArgs false
set_option linter.constructorNameAsVariable false
open Go.RowKit Go.Maps
open Go.WideElems (Fit rg)
def orF (h f : Lit → Option Value) : Lit → Option Value := fun x => match h x with | some v => some v | none => f x
theorem nodup_lt {l : List Nat} : ∀ {m : Nat}, l.Nodup → (∀ x ∈ l, x < m) → l.length ≤ m := by
 intro m
 induction m generalizing l with
 | zero => intro _ h; cases l with
  | nil => simp
  | cons x l => exact absurd (h x (by simp)) (by omega)
 | succ m ih =>
  intro hn h
  have := ih (l := l.erase m) (hn.erase _) (fun x hx => by
   have h1 := h x (List.mem_of_mem_erase hx)
   have h2 : x ≠ m := fun e => by subst e; exact (List.Nodup.not_mem_erase hn) hx
   omega)
  have h3 := List.length_erase (a := m) (l := l)
  split at h3 <;> omega
section
variable {P : Program} {k : TypeId} {w w' : World} {b n : Nat} {f : Lit → Option Value}
theorem MapAt.clear {t e : TypeId} (h : MapAt w P k b n f) (ht : P.underlying t = some (.map k e)) (ty : TypeId) :
    ∃ w', (Builtin.clear_ #[t] ty #[.map (some b)]).run P w = .ok (.tuple #[]) w' ∧ MapAt w' P k b 0 (fun _ => none) ∧ Fr (fun j => j = b) w w' := by
 obtain ⟨D, ⟨es, clock, hb, F, hsz, hD⟩, hf⟩ := h
 have hset := MapKept.heap_set (o' := .map #[] clock) hb
 refine ⟨{ w with heap := w.heap.setIfInBounds b (.map #[] clock) }, by simp [Builtin.clear_, run_underlying ht, MapKept.run_getObj_map hb, MapKept.run_setObj_map _ hb, Result.andThen], ⟨.map [], ⟨#[], clock, hset.1, ⟨by simp, MapKept.stamped_empty clock, by simp⟩, Nat.le_refl _, rfl⟩, fun kl => by simp [Maps.has]⟩, ⟨rfl, rfl, rfl, by simp, fun j _ hj => hset.2 j hj⟩⟩
theorem MapAt.tight {q : IntKind} (h : MapAt w P k b n f) (K : Keyed P k) (m : Nat) (hk : ∀ kl, f kl ≠ none → ∃ a : Nat, kl = .int q a ∧ a < m) : MapAt w P k b m f := by
 obtain ⟨D, ⟨es, clock, hb, F, hsz, rfl⟩, hf⟩ := h
 refine ⟨_, ⟨es, clock, hb, F, ?_, rfl⟩, hf⟩
 have hp := Maps.fit_apart K F
 have hin : ∀ p ∈ es.toList.map (rg P k Rv), ∃ a : Nat, p.1 = .int q a ∧ a < m := fun p hp' => by
  refine hk p.1 ?_
  rw [hf p.1]
  have : Maps.has (DataW.map ((es.toList.map (rg P k Rv)).foldr DataW.insert [])) p.1 = true :=
   List.any_eq_true.2 ⟨p, mem_sorted.2 hp', WideAt.sameKey_self ((Maps.fit_keys F |> fun kk => K.one.key (kk p hp')))⟩
  rw [this]
  simp
 have hnum : ((es.toList.map (rg P k Rv)).map fun p => match p.1 with | .int _ a => a.toNat | _ => 0).length ≤ m := by
  refine nodup_lt ?_ ?_
  · rw [List.Nodup, List.pairwise_map]
    refine List.Pairwise.imp_of_mem ?_ hp
    intro p r hp' hr' hne he
    obtain ⟨a, ha, _⟩ := hin p hp'
    obtain ⟨c, hc, _⟩ := hin r hr'
    rw [ha, hc] at he
    simp at he
    exact hne (by rw [ha, hc, he])
  · intro x hx
    obtain ⟨p, hp', rfl⟩ := List.mem_map.1 hx
    obtain ⟨a, ha, hlt⟩ := hin p hp'
    rw [ha]
    simpa using hlt
 simpa using hnum
theorem merged_end {Dout Dd Ds : DataW Value} {left : Lit → Bool} (hM : Merged Dout Dd Ds left) (hl : ∀ k, left k = false) {fd fs : Lit → Option Value}
    (hd : ∀ kl, fd kl = if Maps.has Dd kl then some (valOf (Dd.atKey kl (.held undef))) else none) (hs : ∀ kl, fs kl = if Maps.has Ds kl then some (valOf (Ds.atKey kl (.held undef))) else none) :
    ∀ kl, orF fs fd kl = if Maps.has Dout kl then some (valOf (Dout.atKey kl (.held undef))) else none := by
 intro kl
 have h1 := hM.1 kl
 have h2 := hM.2 kl (.held undef)
 rw [hl kl] at h1 h2
 simp only [Bool.not_false, Bool.and_true] at h1 h2
 unfold orF
 rw [hs kl, hd kl, h1, h2]
 cases Maps.has Ds kl <;> cases Maps.has Dd kl <;> simp
theorem MapAt.cloned {t : TypeId} (h : MapAt w P k b n f) : ∃ o, (Extern.MapsClone.clone #[.iface t (.map (some b))]).run P w = .ok (.iface t (.map (some w.heap.size))) (w.alloc o) ∧ MapAt (w.alloc o) P k w.heap.size n f := by
 obtain ⟨D, ⟨es, clock, hb, F, hsz, hD⟩, hf⟩ := h
 exact ⟨_, run_maps_clone_sl w t hb, ⟨D, ⟨es, clock, (MapKept.heap_alloc w _).1, F, hsz, hD⟩, hf⟩⟩
end
section
variable {P : Program} {w : World} {ops : Array Oper} {rest : List Oper} {o : Oper} {a : Act} {Q : Exit → Act → World → Prop} {b n : Nat} {f : Lit → Option Value}
theorem wpList_mclear {k e t : TypeId} (hM : MapAt w P k b n f) (ht : P.underlying t = some (.map k e)) (hg : o.guard = none) (m : Operand) (hop : o.op = Op.call { callee := Callee.builtin Builtin.clear, args := #[m], argTypes := #[t] })
    (hm : a.eval m = .map (some b))
    (hK : ∀ w', MapAt w' P k b 0 (fun _ => none) → Fr (fun j => j = b) w w' → wpList P ops Q rest (a.put o.dst (.tuple #[])) w') : wpList P ops Q (o :: rest) a w := by
 refine wpList_plain hg fun K' hK' => ?_
 obtain ⟨w', hrun, r1, r2⟩ := hM.clear ht o.type
 unfold Oper.wp
 simp [execOp, hop, resolve, invoke, builtin, hm, hrun, Result.andThen]
 exact hK' _ _ (hK w' r1 r2)
end
end Go.Proofs.YtfchcdbfalgdlaaGreatDoor
namespace Go.Proofs.YtfchcdbfalgdlaaGreatDoor
set_option linter.unusedVariables false
set_option linter.unusedSimpArgs false
set_option linter.constructorNameAsVariable false
open Go.RowKit Go.ChangeShapes Go.WideShapes Go.Deep
theorem fm_len {α : Type} (f : α → List Value) (k : Nat) : ∀ L : List α, (∀ x ∈ L, (f x).length = k) → (L.flatMap f).length = L.length * k
 | [], _ => by simp
 | x :: L, h => by
  rw [List.flatMap_cons, List.length_append, h x (by simp), fm_len f k L (fun y hy => h y (by simp [hy])), List.length_cons, Nat.succ_mul]; omega
theorem fm_get {α : Type} (f : α → List Value) (k : Nat) : ∀ (L : List α) (i j : Nat) (hi : i < L.length), (∀ x ∈ L, (f x).length = k) → j < k → (L.flatMap f)[i * k + j]? = (f L[i])[j]?
 | [], i, j, hi, _, _ => by simp at hi
 | x :: L, 0, j, hi, h, hj => by
  rw [List.flatMap_cons, Nat.zero_mul, Nat.zero_add, List.getElem?_append_left (by rw [h x (by simp)]; exact hj)]; rfl
 | x :: L, i + 1, j, hi, h, hj => by
  have hx := h x (by simp)
  rw [List.flatMap_cons, List.getElem?_append_right (by rw [hx, Nat.succ_mul]; omega), hx]
  have : (i + 1) * k + j - k = i * k + j := by rw [Nat.succ_mul]; omega
  rw [this, fm_get f k L i j (by simpa using hi) (fun y hy => h y (by simp [hy])) hj]; rfl
theorem fm_out {α : Type} (f : α → List Value) (k : Nat) (hk : 0 < k) (L : List α) (h : ∀ x ∈ L, (f x).length = k) (q : Nat) (u : Value) (hu : (L.flatMap f)[q]? = some u) : ∃ (i j : Nat) (hi : i < L.length), j < k ∧ q = i * k + j ∧ (f L[i])[j]? = some u := by
 have hl := fm_len f k L h
 have hq : q < L.length * k := by rw [← hl]; exact (List.getElem?_eq_some_iff.1 hu).1
 have hd : q / k < L.length := Nat.div_lt_of_lt_mul (by rwa [Nat.mul_comm] at hq)
 have hm : q % k < k := Nat.mod_lt _ hk
 have he : q = q / k * k + q % k := by rw [Nat.mul_comm]; exact (Nat.div_add_mod q k).symm
 refine ⟨q / k, q % k, hd, hm, he, ?_⟩
 rw [← fm_get f k L (q / k) (q % k) hd h hm, ← he, hu]
theorem list_of {α : Type} {Q : Nat → α → Prop} : ∀ n, (∀ i, i < n → ∃ x, Q i x) → ∃ L : List α, L.length = n ∧ ∀ i (hi : i < L.length), Q i L[i]
 | 0, _ => ⟨[], rfl, fun i hi => by simp at hi⟩
 | n + 1, h => by
  obtain ⟨L, hl, hL⟩ := list_of n fun i hi => h i (by omega)
  obtain ⟨x, hx⟩ := h n (by omega)
  refine ⟨L ++ [x], by simp [hl], fun i hi => ?_⟩
  by_cases hin : i < L.length
  · rw [List.getElem_append_left hin]; exact hL i hin
  · have : i = n := by simp at hi; omega
    subst this
    rw [List.getElem_append_right (by omega)]
    simpa [hl] using hx
end Go.Proofs.YtfchcdbfalgdlaaGreatDoor
namespace Go.Proofs.YtfchcdbfalgdlaaGreatDoor
set_option linter.unusedVariables false
set_option linter.unusedSimpArgs false
set_option linter.constructorNameAsVariable false
open Go.RowKit Go.ChangeShapes Go.WideShapes Go.Deep
def Sz {H : Type} (P : Program) (t : TypeId) (d : DataW H) : Prop := (d.weights P t).all (· ≤ reachBytes) = true
section
variable {H : Type} {enc : TypeId × Value → H} {P : Program} {w : World}
theorem Sz.of {ts : List TypeId} {ds : List (DataW H)} (h : (DataW.weightsEach P ts ds).all (· ≤ reachBytes) = true) {j : Nat} {t : TypeId} {d : DataW H} (ht : ts[j]? = some t) (hd : ds[j]? = some d) : Sz P t d := by
 unfold Sz
 rw [List.all_eq_true] at h ⊢
 exact fun x hx => h x (DataW.weights_mem_each ht hd x hx)
theorem weights_mem_all {e : TypeId} : ∀ {ds : List (DataW H)} {d : DataW H}, d ∈ ds → ∀ n ∈ d.weights P e, n ∈ DataW.weightsAll P e ds
 | d0 :: ds, d, hd, n, hn => by
  rcases List.mem_cons.1 hd with rfl | hd
  · simp only [DataW.weightsAll, List.mem_append]; exact .inl hn
  · simp only [DataW.weightsAll, List.mem_append]; exact .inr (weights_mem_all hd n hn)
theorem Sz.slice {t e : TypeId} (ht : P.underlying t = some (.slice e)) {xs ys : List (DataW H)} (h : Sz P t (.slice xs ys)) : (xs.length + ys.length) * P.bytesOf e ≤ reachBytes ∧ ∀ d ∈ xs, Sz P e d := by
 unfold Sz at h
 simp only [DataW.weights, ht, List.all_cons, List.all_append, Bool.and_eq_true, decide_eq_true_eq] at h
 refine ⟨h.1, fun d hd => ?_⟩
 unfold Sz
 rw [List.all_eq_true]
 exact fun x hx => List.all_eq_true.1 h.2.1 x (weights_mem_all hd x hx)
theorem Sz.struct {t : TypeId} {fs : Array Field} (ht : P.underlying t = some (.struct fs)) {xs : List (DataW H)} (h : Sz P t (.agg xs)) {j : Nat} {f : Field} {d : DataW H} (hf : fs[j]? = some f) (hd : xs[j]? = some d) : Sz P f.type d := by
 unfold Sz at h
 simp only [DataW.weights, ht] at h
 exact Sz.of h (j := j) (by simp [hf]) hd
theorem trod_slk {t e : TypeId} (ht : P.underlying t = some (.slice e)) {α : Type} (f : α → List Value) (k : Nat) (hk : P.cellsOf e = k) (hpos : 0 < k) (Good : α → Prop)
    (hel : ∀ (cs : List Value) (m : Nat) (y : DataW H × List MemPlace), cs.length = k → DataW.trod enc P w 0 (fun _ => true) true m e cs = some y → Sz P e y.1 → ∃ x : α, f x = cs ∧ Good x)
    {fuel : Nat} {v : Value} {y : DataW H × List MemPlace} (h : DataW.trod enc P w 0 (fun _ => true) true fuel t [v] = some y) (hs : Sz P t y.1) :
    ∃ (A : Option Addr) (n c : Nat) (L : List α), v = .slice A n c ∧ n ≤ c ∧ c ≤ maxLen ∧ c * P.bytesOf e ≤ reachBytes ∧ L.length = n ∧ Rd (fun b => b < w.heap.size) w k A n (L.flatMap f) ∧ (∀ x ∈ L, Good x) ∧ (∀ x ∈ L, (f x).length = k) := by
 rcases open_slice ht h with ⟨hcs, _⟩ | ⟨a, len, cap, m, n, D, Pl, hcs, _, hl, hm, hmm, rfl, hi⟩
 · simp at hcs
   subst hcs
   exact ⟨none, 0, 0, [], rfl, Nat.le_refl _, Nat.zero_le _, by simp, rfl, Rd.nil, by simp, by simp⟩
 · simp at hcs
   subst hcs
   simp at hmm
   subst hmm
   obtain ⟨hs1, hs2⟩ := hs.slice ht
   simp only [List.length_map, List.length_range] at hs1
   have key : ∀ i, i < len → ∃ x : α, Good x ∧ (f x).length = k ∧ ∀ j, j < k → w.cell? (a.add (i * k + j)) = (f x)[j]? := by
    intro i hin
    obtain ⟨cs', hc, htr⟩ := hi i (by omega)
    rw [hk] at hc
    obtain ⟨_, hcl, hat⟩ := World.cells?_some hc
    obtain ⟨x, hx, hg⟩ := hel cs' n (D i, Pl i) hcl htr (hs2 _ (List.mem_map_of_mem (List.mem_range.2 hin)))
    refine ⟨x, hg, by rw [hx]; exact hcl, fun j hj => ?_⟩
    rw [hx, ← hat j hj, add_add']
   obtain ⟨L, hL, hQ⟩ := list_of len key
   have hlen : ∀ x ∈ L, (f x).length = k := fun x hx => by obtain ⟨i, hi, rfl⟩ := List.getElem_of_mem hx; exact (hQ i hi).2.1
   refine ⟨some a, len, _, L, rfl, hl, hm, by rw [Nat.add_sub_cancel' hl] at hs1; exact hs1, hL, ⟨by rw [fm_len f k L hlen, hL], fun hn => ⟨a, rfl, ?_, ?_, ?_⟩⟩, fun x hx => by obtain ⟨i, hi, rfl⟩ := List.getElem_of_mem hx; exact (hQ i hi).1, hlen⟩
   · have h0 := (hQ 0 (by omega)).2.2 0 hpos
     have hs : (f (L[0]'(by omega)))[0]? = some ((f (L[0]'(by omega)))[0]'(by rw [hlen _ (List.getElem_mem _)]; exact hpos)) := List.getElem?_eq_getElem _
     rw [hs] at h0
     have := World.block_lt_of_cell? w _ h0
     rwa [add_block] at this
   · have h0 := (hQ 0 (by omega)).2.2 0 hpos
     have hs : (f (L[0]'(by omega)))[0]? = some ((f (L[0]'(by omega)))[0]'(by rw [hlen _ (List.getElem_mem _)]; exact hpos)) := List.getElem?_eq_getElem _
     rw [hs] at h0
     have := World.block_lt_of_cell? w _ h0
     rwa [add_block] at this
   · intro q u hu
     obtain ⟨i, j, hil, hj, rfl, hu'⟩ := fm_out f k hpos L hlen q u hu
     rw [(hQ i hil).2.2 j hj, hu']
theorem field_s {ts : TypeId} {fs : Array Field} (hs : P.underlying ts = some (.struct fs)) {m : Nat} {cs : List Value} {y : DataW H × List MemPlace} (h : DataW.trod enc P w 0 (fun _ => true) true m ts cs = some y) (hz : Sz P ts y.1) {j : Nat} {fd : Field} (hf : fs[j]? = some fd) (hc : P.cellsOf fd.type = 1) (hlt : fd.offset < cs.length) :
    ∃ n z, DataW.trod enc P w 0 (fun _ => true) true n fd.type [cs[fd.offset]] = some z ∧ Sz P fd.type z.1 := by
 obtain ⟨xs, n, _, rfl, _, hlen, hg⟩ := DataW.trod_struct hs h
 have := hg j fd hf
 rw [hc, List.drop_eq_getElem_cons hlt] at this
 have hj : j < xs.length := by rw [hlen]; exact (Array.getElem?_eq_some_iff.1 hf).1
 rw [List.getElem?_eq_getElem hj] at this
 exact ⟨n, _, this, hz.struct hs hf (by simp [hj])⟩
theorem trod_ints {t e : TypeId} {k : IntKind} (ht : P.underlying t = some (.slice e)) (he : P.underlying e = some (.int k)) (hc : P.cellsOf e = 1)
    {fuel : Nat} {v : Value} {y : DataW H × List MemPlace} (h : DataW.trod enc P w 0 (fun _ => true) true fuel t [v] = some y) (hs : Sz P t y.1) :
    ∃ (A : Option Addr) (n c : Nat) (xs : List Int), v = .slice A n c ∧ n ≤ c ∧ c ≤ maxLen ∧ c * P.bytesOf e ≤ reachBytes ∧ xs.length = n ∧ Rd (fun b => b < w.heap.size) w 1 A n (xs.map (Value.int k)) ∧ ∀ x ∈ xs, (Lit.int k x).wf = true := by
 obtain ⟨A, n, c, L, h1, h2, h3, h4, h5, h6, h7, -⟩ := trod_slk (k := 1) ht (fun x : Int => [Value.int k x]) hc (by omega) (fun x => (Lit.int k x).wf = true) (fun cs m y hl ht' _ => by
  obtain ⟨a, rfl, _, g⟩ := DataW.trod_int he ht'
  exact ⟨a, rfl, g⟩) h hs
 refine ⟨A, n, c, L, h1, h2, h3, h4, h5, ?_, h7⟩
 rwa [show L.flatMap (fun x => [Value.int k x]) = L.map (Value.int k) from List.map_eq_flatMap.symm] at h6
end
end Go.Proofs.YtfchcdbfalgdlaaGreatDoor
namespace Go.Proofs.YtfchcdbfalgdlaaGreatDoor
set_option linter.unusedVariables false
set_option linter.unusedSimpArgs false
set_option linter.constructorNameAsVariable false
open Go.RowKit Go.Maps
def SecOk (s : List Int) : Prop := s.length = 64 ∧ Byt s
def sec0 : List Int := List.replicate 64 0
theorem sec0_ok : SecOk sec0 := ⟨by simp [sec0], fun x hx => by simp [sec0] at hx; omega⟩
def i64s (xs : List Int) : List Value := xs.map (Value.int .i64)
theorem i64s_len (xs : List Int) : (i64s xs).length = xs.length := by simp [i64s]
theorem i64s_app (xs : List Int) (x : Int) : i64s (xs ++ [x]) = i64s xs ++ [.int .i64 x] := by simp [i64s]
theorem elI : ElemOf Tryz.prog 89 3 1 8 := ElemOf.mk' (z := .int .i64 0) Tryz.underlying89 (by kernel_rfl) rfl (by decide)
theorem kI : Keyed Tryz.prog 3 := int_keyed Tryz.underlying3
structure DP where
 size : Nat
 sure : Int → Option (List Int)
 fresh : Int → Option (List Int)
 order : List Int
 fuse : Int
 down : Bool
def upd (F : Int → Option (List Int)) (a : Int) (s : Option (List Int)) : Int → Option (List Int) := fun x => if x = a then s else F x
structure DP.Ok (p : DP) : Prop where
 s1 : 1 ≤ p.size
 s2 : p.size ≤ 16384
 sureR : ∀ a s, p.sure a = some s → (0 ≤ a ∧ a < p.size) ∧ SecOk s
 freshR : ∀ a s, p.fresh a = some s → (0 ≤ a ∧ a < p.size) ∧ SecOk s
 nod : p.order.Nodup
 ord : ∀ a, a ∈ p.order ↔ p.fresh a ≠ none
 fz : -1 ≤ p.fuse ∧ p.fuse ≤ 9223372036854775807
def DP.new (n : Nat) : DP := ⟨n, fun _ => none, fun _ => none, [], -1, false⟩
def DP.get (p : DP) (a : Int) : List Int := match p.fresh a with | some s => s | none => (p.sure a).getD sec0
def DP.put (p : DP) (a : Int) (s : List Int) : DP := { p with order := if p.fresh a = none then p.order ++ [a] else p.order, fresh := upd p.fresh a (some s) }
def DP.burn (p : DP) : DP := { p with fuse := if 0 < p.fuse then p.fuse - 1 else p.fuse }
def DP.write (p : DP) (a : Int) (s : List Int) : DP := p.burn.put a s
def DP.sync (p : DP) : DP := { p with sure := fun a => match p.fresh a with | some s => some s | none => p.sure a, fresh := fun _ => none, order := [] }
def cutS (p : DP) (keep : List Bool) : Nat → Int → Option (List Int)
 | 0 => p.sure
 | j + 1 => if keep.getD j false = true then upd (cutS p keep j) (p.order.getD j 0) (p.fresh (p.order.getD j 0)) else cutS p keep j
def DP.cut (p : DP) (keep : List Bool) : DP := ⟨p.size, cutS p keep p.order.length, fun _ => none, [], -1, false⟩
theorem DP.new_ok {n : Nat} (h1 : 1 ≤ n) (h2 : n ≤ 16384) : (DP.new n).Ok :=
 ⟨h1, h2, fun _ _ h => by simp [DP.new] at h, fun _ _ h => by simp [DP.new] at h, by simp [DP.new], fun a => by simp [DP.new], by simp [DP.new]⟩
theorem DP.Ok.get {p : DP} (h : p.Ok) (a : Int) : SecOk (p.get a) := by
 unfold DP.get
 cases hf : p.fresh a with
 | some s => exact (h.freshR a s hf).2
 | none =>
  cases hs : p.sure a with
  | some s => exact (h.sureR a s hs).2
  | none => exact sec0_ok
theorem DP.Ok.inOrd {p : DP} (h : p.Ok) {a : Int} (ha : a ∈ p.order) : 0 ≤ a ∧ a < p.size := by
 have := (h.ord a).1 ha
 cases hf : p.fresh a with
 | none => exact absurd hf this
 | some s => exact (h.freshR a s hf).1
theorem DP.Ok.len {p : DP} (h : p.Ok) : p.order.length ≤ p.size := by
 have : (p.order.map Int.toNat).length ≤ p.size := by
  refine nodup_lt ?_ ?_
  · rw [List.Nodup, List.pairwise_map]
    refine List.Pairwise.imp_of_mem ?_ h.nod
    intro x y hx hy hne he
    have := h.inOrd hx
    have := h.inOrd hy
    omega
  · intro x hx
    obtain ⟨y, hy, rfl⟩ := List.mem_map.1 hx
    have := h.inOrd hy
    omega
 simpa using this
theorem DP.Ok.put {p : DP} (h : p.Ok) {a : Int} (ha : 0 ≤ a ∧ a < p.size) {s : List Int} (hs : SecOk s) : (p.put a s).Ok := by
 refine ⟨h.s1, h.s2, h.sureR, ?_, ?_, ?_, ?_⟩
 · intro b t hb
   simp only [DP.put, upd] at hb
   split at hb
   · next e => subst e; injection hb with hb; subst hb; exact ⟨ha, hs⟩
   · exact h.freshR b t hb
 · simp only [DP.put]
   split
   · next hn =>
     rw [List.nodup_append]
     refine ⟨h.nod, by simp, ?_⟩
     intro x hx y hy e
     simp at hy
     subst hy e
     exact (h.ord x).1 hx hn
   · exact h.nod
 · intro b
   simp only [DP.put, upd]
   by_cases e : b = a
   · subst e
     simp only [if_true]
     split
     · simp
     · next hn => simp [(h.ord b).2 hn]
   · rw [if_neg e]
     split
     · simp [e, h.ord b]
     · exact h.ord b
 · exact h.fz
theorem DP.Ok.burn {p : DP} (h : p.Ok) : p.burn.Ok := ⟨h.s1, h.s2, h.sureR, h.freshR, h.nod, h.ord, by have := h.fz; simp only [DP.burn]; split <;> omega⟩
theorem DP.Ok.write {p : DP} (h : p.Ok) {a : Int} (ha : 0 ≤ a ∧ a < p.size) {s : List Int} (hs : SecOk s) : (p.write a s).Ok := h.burn.put ha hs
theorem DP.Ok.sync {p : DP} (h : p.Ok) : p.sync.Ok := by
 refine ⟨h.s1, h.s2, ?_, by simp [DP.sync], by simp [DP.sync], by simp [DP.sync], h.fz⟩
 intro a s hs
 simp only [DP.sync] at hs
 cases hf : p.fresh a with
 | some t => rw [hf] at hs; injection hs with hs; subst hs; exact h.freshR a t hf
 | none => rw [hf] at hs; exact h.sureR a s hs
theorem cutS_ok {p : DP} (h : p.Ok) (keep : List Bool) : ∀ j a s, cutS p keep j a = some s → (0 ≤ a ∧ a < p.size) ∧ SecOk s
 | 0, a, s, hs => h.sureR a s hs
 | j + 1, a, s, hs => by
  simp only [cutS] at hs
  split at hs
  · simp only [upd] at hs
    split at hs
    · next e => subst e; exact h.freshR _ s hs
    · exact cutS_ok h keep j a s hs
  · exact cutS_ok h keep j a s hs
theorem DP.Ok.cut {p : DP} (h : p.Ok) (keep : List Bool) : (p.cut keep).Ok :=
 ⟨h.s1, h.s2, cutS_ok h keep _, by simp [DP.cut], by simp [DP.cut], by simp [DP.cut], by simp [DP.cut]⟩
def mf (F : Int → Option (List Int)) : Lit → Option Value
 | .int .i64 a => (F a).map fun s => .agg (secA s)
 | _ => none
theorem mf_upd (F : Int → Option (List Int)) (a : Int) (s : Option (List Int)) : putF (mf F) (.int .i64 a) (s.map fun s => .agg (secA s)) = mf (upd F a s) := by
 funext x
 by_cases h : x = .int .i64 a
 · subst h
   rw [putF_same (by trivial)]
   simp [mf, upd]
 · rw [putF_other h]
   unfold mf upd
   split
   · next b => rw [if_neg (by rintro rfl; exact h rfl)]
   · rfl
theorem mf_or (F G : Int → Option (List Int)) : orF (mf F) (mf G) = mf fun a => match F a with | some s => some s | none => G a := by
 funext x
 unfold orF mf
 split
 · next b v h => split at h
                 · next a => cases hF : F a with
                   | none => rw [hF] at h; cases h
                   | some s => rw [hF] at h; simp [← h, hF]
                 · cases h
 · next b h => split at h
               · next a => cases hF : F a with
                 | none => simp [hF]
                 | some s => rw [hF] at h; cases h
               · rfl
theorem mf_none : mf (fun _ => none) = fun _ => none := by funext x; unfold mf; split <;> rfl
theorem mf_shape {F : Int → Option (List Int)} {n : Nat} (h : ∀ a s, F a = some s → (0 ≤ a ∧ a < n) ∧ SecOk s) {kl : Lit} {v : Value} (hv : mf F kl = some v) : ∃ s, v = .agg (secA s) ∧ SecOk s := by
 unfold mf at hv
 split at hv
 · next a => cases hF : F a with
   | none => rw [hF] at hv; cases hv
   | some s => rw [hF] at hv; injection hv with hv; exact ⟨s, hv.symm, (h a s hF).2⟩
 · cases hv
theorem mf_keys {F : Int → Option (List Int)} {n : Nat} (h : ∀ a s, F a = some s → (0 ≤ a ∧ a < n) ∧ SecOk s) (kl : Lit) (hv : mf F kl ≠ none) : ∃ a : Nat, kl = .int .i64 a ∧ a < n := by
 unfold mf at hv
 split at hv
 · next a => cases hF : F a with
   | none => rw [hF] at hv; exact absurd rfl hv
   | some s =>
    have := (h a s hF).1
    obtain ⟨m, rfl⟩ := Int.eq_ofNat_of_zero_le this.1
    exact ⟨m, rfl, by omega⟩
 · exact absurd rfl hv
structure Dk (w : World) (base g bs bf : Nat) (v : Value) (p : DP) : Prop where
 blk : Blk w g 120 #[.int .i64 p.size, .map (some bs), .map (some bf), v, .int .i64 p.fuse, .bool p.down]
 ms : MapAt w Tryz.prog 3 bs p.size (mf p.sure)
 mw : MapAt w Tryz.prog 3 bf p.size (mf p.fresh)
 own : w.ownsRow base 3 1 v p.order.length (i64s p.order)
 ne : bs ≠ bf
 lo : base ≤ g ∧ base ≤ bs ∧ base ≤ bf
 ok : p.Ok
def DkOurs (g bs bf : Nat) (v : Value) (k : Nat) : Prop := k = g ∨ k = bs ∨ k = bf ∨ v.ownBlock = some k
section
variable {w w' : World} {base g bs bf : Nat} {v : Value} {p : DP}
theorem Dk.fr {S : Nat → Prop} (h : Dk w base g bs bf v p) (hf : Fr S w w') (hs : ∀ k, S k → ¬ DkOurs g bs bf v k) : Dk w' base g bs bf v p :=
 ⟨h.blk.fr hf (fun k => hs _ k (.inl rfl)), h.ms.fr hf (fun k => hs _ k (.inr (.inl rfl))), h.mw.fr hf (fun k => hs _ k (.inr (.inr (.inl rfl)))), own_fr h.own hf (fun _ hk k => hs _ k (.inr (.inr (.inr hk)))), h.ne, h.lo, h.ok⟩
theorem Dk.new (h : Dk w base g bs bf v p) (hN : New w w') : Dk w' base g bs bf v p := h.fr (hN.toFr NoB) (fun _ x => x.elim)
theorem Dk.ours (h : Dk w base g bs bf v p) : ∀ k, DkOurs g bs bf v k → base ≤ k ∧ k < w.heap.size := by
 rintro k (rfl | rfl | rfl | hk)
 · exact ⟨h.lo.1, h.blk.lt⟩
 · exact ⟨h.lo.2.1, h.ms.lt⟩
 · exact ⟨h.lo.2.2, h.mw.lt⟩
 · exact own_lt h.own k hk
theorem blk_map {t : TypeId} {cs : Array Value} {P : Program} {k : TypeId} {n b : Nat} {f : Lit → Option Value} {g : Nat} (h : Blk w g t cs) (hm : MapAt w P k b n f) : g ≠ b := by
 rintro rfl
 obtain ⟨D, ⟨es, clock, hb, _⟩, _⟩ := hm
 unfold Blk at h
 rw [h] at hb
 cases hb
theorem own_map {e s m k : Nat} {xs : List Value} {P : Program} {kt : TypeId} {n b : Nat} {f : Lit → Option Value} (h : w.ownsRow base e s v m xs) (hm : MapAt w P kt b n f) (hk : v.ownBlock = some k) : k ≠ b := by
 rcases h.2 with ⟨rfl, _⟩ | ⟨g', cap, cur, rfl, _, hh, _⟩
 · cases hk
 · have : g' = k := by simpa [Value.ownBlock] using hk
   subst this
   exact blk_map (t := e) hh hm
theorem Dk.gs (h : Dk w base g bs bf v p) : g ≠ bs := blk_map h.blk h.ms
theorem Dk.gf (h : Dk w base g bs bf v p) : g ≠ bf := blk_map h.blk h.mw
theorem Dk.vg (h : Dk w base g bs bf v p) : v.ownBlock ≠ some g := own_ne h.own h.blk (by decide)
theorem Dk.vs (h : Dk w base g bs bf v p) : ∀ k, v.ownBlock = some k → k ≠ bs := fun _ hk => own_map h.own h.ms hk
theorem Dk.vf (h : Dk w base g bs bf v p) : ∀ k, v.ownBlock = some k → k ≠ bf := fun _ hk => own_map h.own h.mw hk
end
end Go.Proofs.YtfchcdbfalgdlaaGreatDoor
namespace Go.Proofs.YtfchcdbfalgdlaaGreatDoor
set_option linter.unusedVariables false
set_option linter.unusedSimpArgs false
set_option linter.constructorNameAsVariable false
open Go.RowKit Go.Maps
theorem may_in {w : World} {base g bs bf : Nat} {v : Value} {p : DP} (h : Dk w base g bs bf v p) {a : Int} (h0 : 0 ≤ a) (h1 : a < p.size) : Calls Tryz.prog 71 #[.pointer (some ⟨g, 0, none⟩), .int .i64 a] w fun e w' => e = .returned .nilIface ∧ w = w' := by
 have c0 := h.blk.cell 0
 have hs := h.ok.s2
 clear h
 have t0 : decide (a < 0) = false := decide_eq_false (by omega)
 go_enter Tryz.func71, Tryz.ntmps71
 go_wp2_with fail
 go_ret
 exact ⟨rfl, rfl⟩
theorem may_out {w : World} {base g bs bf : Nat} {v : Value} {p : DP} (h : Dk w base g bs bf v p) {a : Int} (h1 : ¬ (0 ≤ a ∧ a < p.size)) : Calls Tryz.prog 71 #[.pointer (some ⟨g, 0, none⟩), .int .i64 a] w fun e w' => e = .returned (.iface 38 (.int .i64 1)) ∧ w = w' := by
 have c0 := h.blk.cell 0
 have hs := h.ok.s2
 clear h
 by_cases h0 : a < 0
 · have t0 : decide (a < 0) = true := decide_eq_true h0
   go_enter Tryz.func71, Tryz.ntmps71
   go_wp2_with fail
   go_ret
   exact ⟨rfl, rfl⟩
 · have h2 : (p.size : Int) ≤ a := by omega
   have t0 : decide (a < 0) = false := decide_eq_false h0
   clear h1
   go_enter Tryz.func71, Tryz.ntmps71
   go_wp2_with fail
   go_ret
   exact ⟨rfl, rfl⟩
theorem new_ok (n : Nat) (w : World) (base : Nat) (hb : base ≤ w.heap.size) (h1 : 1 ≤ n) (h2 : n ≤ 16384) : Calls Tryz.prog 22 #[.int .i64 n] w fun e w' => e = .returned (.tuple #[.pointer (some ⟨w.heap.size + 2, 0, none⟩), .nilIface]) ∧
    Dk w' base (w.heap.size + 2) w.heap.size (w.heap.size + 1) (.slice none 0 0) (DP.new n) ∧ New w w' := by
 have hmk := @run_makeMap Tryz.prog
 go_enter Tryz.func22, Tryz.ntmps22
 go_wp2_with fail
 go_ret2
 refine ⟨rfl, ⟨?_, ?_, ?_, World.ownsRow_nil _ _ _ _, by omega, by omega, DP.new_ok h1 h2⟩, ((New.refl w).al _ |>.al _).al _⟩
 · exact Blk.new' _ _ _ (by simp)
 · rw [show mf (DP.new n).sure = fun _ => none from mf_none]
   exact (((MapAt.made w Tryz.prog 3).alloc _).alloc _).mono (by omega)
 · rw [show mf (DP.new n).fresh = fun _ => none from mf_none]
   have := ((MapAt.made (w.alloc (.map #[] 0)) Tryz.prog 3).alloc (.cells #[.int .i64 n, .map (some w.heap.size), .map (some (w.heap.size + 1)), .slice none 0 0, .int .i64 (-1), .bool false] 120)).mono (show 0 ≤ n by omega)
   simpa [DP.new] using this
theorem len_in {w : World} {base g bs bf : Nat} {v : Value} {p : DP} (h : Dk w base g bs bf v p) : Calls Tryz.prog 90 #[.pointer (some ⟨g, 0, none⟩)] w fun e w' => e = .returned (.int .i64 p.size) ∧ w = w' := by
 have c0 := h.blk.cell 0
 clear h
 go_enter Tryz.func90, Tryz.ntmps90
 go_wp2_with fail
 go_ret
 exact ⟨rfl, rfl⟩
def DP.fused (p : DP) (a : Int) : DP := { p with fuse := max a (-1) }
theorem fuse_in {w : World} {base g bs bf : Nat} {v : Value} {p : DP} (h : Dk w base g bs bf v p) {a : Int} (ha : (Lit.int .i64 a).wf = true) : Calls Tryz.prog 27 #[.pointer (some ⟨g, 0, none⟩), .int .i64 a] w fun e w' => e = .returned (.tuple #[]) ∧ Dk w' base g bs bf v (p.fused a) ∧ Fr (fun k => k = g) w w' := by
 have hb := bounds_i64 ha
 have f4 := h.blk.frozen 4
 have c4 := h.blk.cell 4
 have key : ∀ n : Int, max a (-1) = n → Dk (w.setCell ⟨g, 4, none⟩ (.int .i64 n)) base g bs bf v (p.fused a) := fun n hn => by
  have hf : Fr (fun k => k = g) w (w.setCell ⟨g, 4, none⟩ (.int .i64 n)) := (Fr.refl _ w).setCell (S := fun k => k = g) (p := ⟨g, 4, none⟩) (fun _ => rfl) _
  refine ⟨?_, h.ms.fr hf (fun e => h.gs e.symm), h.mw.fr hf (fun e => h.gf e.symm), own_fr h.own hf (fun k hk e => h.vg (by rw [hk, e])), h.ne, h.lo, ⟨h.ok.s1, h.ok.s2, h.ok.sureR, h.ok.freshR, h.ok.nod, h.ok.ord, by simp only [DP.fused]; omega⟩⟩
  have := h.blk.set 4 (.int .i64 n)
  simpa [DP.fused, hn] using this
 have HK := Lib.hid key
 clear h key
 go_enter Tryz.func27, Tryz.ntmps27
 go_wp2_with fail
 all_goals
  go_end0
  exact ⟨rfl, HK.out _ (by omega), (Fr.refl _ w).setCell (S := fun k => k = g) (p := ⟨g, 4, none⟩) (fun _ => rfl) _⟩
end Go.Proofs.YtfchcdbfalgdlaaGreatDoor
namespace Go.Proofs.YtfchcdbfalgdlaaGreatDoor
set_option linter.unusedVariables false
set_option linter.unusedSimpArgs false
set_option linter.constructorNameAsVariable false
open Go.RowKit Go.Maps
theorem secInfo : (Tryz.prog.info? 68).map (fun i => (i.zero, i.size)) = some (some (.agg (secA sec0)), 64) := by kernel_rfl
theorem zSec (w : World) : (zeroValue 68).run Tryz.prog w = .ok (.agg (secA sec0)) w := (zero_of_info secInfo).1 w
theorem keyI {a : Int} (h0 : 0 ≤ a) (h1 : a < 16384) : keyOf Tryz.prog 3 (.int .i64 a) = some (.int .i64 a) :=
 keyOf_int_mk Tryz.underlying3 (by simp [Lit.wf, IntKind.min, IntKind.max, IntKind.signed, IntKind.bits]; omega)
theorem get_fresh {p : DP} {a : Int} {s : List Int} (h : p.fresh a = some s) : p.get a = s := by simp [DP.get, h]
theorem get_sure {p : DP} {a : Int} (h : p.fresh a = none) : p.get a = (p.sure a).getD sec0 := by simp [DP.get, h]
set_option maxHeartbeats 2000000 in
set_option maxRecDepth 100000 in
theorem read_in {w : World} {base g bs bf : Nat} {v : Value} {p : DP} (h : Dk w base g bs bf v p) {a : Int} (h0 : 0 ≤ a) (h1 : a < p.size) : Calls Tryz.prog 91 #[.pointer (some ⟨g, 0, none⟩), .int .i64 a] w fun e w' => e = .returned (.tuple #[.agg (secA (p.get a)), .nilIface]) ∧ New w w' := by
 have H := Lib.hid h
 have hk := keyI h0 (by have := h.ok.s2; omega)
 have HK := Lib.hid hk
 clear h hk
 go_enter Tryz.func91, Tryz.ntmps91
 go_wp2_with fail
 obtain ⟨w0, hw0⟩ : ∃ w0 : World, w0 = w.alloc (.cells #[.int .u8 0, .int .u8 0, .int .u8 0, .int .u8 0, .int .u8 0, .int .u8 0, .int .u8 0, .int .u8 0, .int .u8 0, .int .u8 0, .int .u8 0, .int .u8 0, .int .u8 0, .int .u8 0, .int .u8 0, .int .u8 0, .int .u8 0, .int .u8 0, .int .u8 0, .int .u8 0, .int .u8 0, .int .u8 0, .int .u8 0, .int .u8 0, .int .u8 0, .int .u8 0, .int .u8 0, .int .u8 0, .int .u8 0, .int .u8 0, .int .u8 0, .int .u8 0, .int .u8 0, .int .u8 0, .int .u8 0, .int .u8 0, .int .u8 0, .int .u8 0, .int .u8 0, .int .u8 0, .int .u8 0, .int .u8 0, .int .u8 0, .int .u8 0, .int .u8 0, .int .u8 0, .int .u8 0, .int .u8 0, .int .u8 0, .int .u8 0, .int .u8 0, .int .u8 0, .int .u8 0, .int .u8 0, .int .u8 0, .int .u8 0, .int .u8 0, .int .u8 0, .int .u8 0, .int .u8 0, .int .u8 0, .int .u8 0, .int .u8 0, .int .u8 0] 68) := ⟨_, rfl⟩
 have HN0 : Hid (New w w0) := Lib.hid (by rw [hw0]; exact New.al (New.refl _) _)
 have HB0 : Hid (Blk w0 w.heap.size 68 (secA sec0)) := Lib.hid (by rw [hw0]; exact Blk.new _ _ _)
 have HD0 := Lib.hid (H.out.new HN0.out)
 rw [← hw0]
 clear hw0
 refine (may_in HD0.out h0 h1).mono ?_
 rintro e w1 ⟨rfl, rfl⟩
 have c2 := HD0.out.blk.cell 2
 cases hf : p.fresh a with
 | some s =>
  have HG := Lib.hid (get_fresh hf)
  have HF := Lib.hid hf
  have HS := Lib.hid (HD0.out.ok.freshR a s hf).2
  clear hf
  go_wp2_with (first
   | ((with_reducible refine atOp ⟨some 22, _, _, _, _, _⟩ ?_); refine wpList_mlook2 (o := ⟨some 22, _, _, _, _, _⟩) HD0.out.mw kI Tryz.underlying118 (zSec _) rfl (.tmp 20) (.tmp 21) rfl rfl _ _ rfl HK.out (.agg (secA s)) true (by simp [mf, HF.out]) (by simp [mf, HF.out]) ?_)
   | ((with_reducible refine atOp ⟨some 7, .alloc _, _, _, _, _⟩ ?_); refine wpList_newvar (s := s) rfl rfl rfl _ _ rfl secInfo rfl rfl rfl HS.out.1 ?_)
   | ((with_reducible refine atOp ⟨some 26, _, _, _, _, _⟩ ?_); refine wpList_load_blk (s := s) rfl _ rfl Tryz.underlying68 rfl rfl (Blk.new _ _ _) HS.out.1 ?_)
   | ((with_reducible refine atOp ⟨none, .store 68 (.tmp 4) _, _, _, _, _⟩ ?_); refine wpList_store_blk (s := s) (s0 := sec0) rfl (.tmp 4) (.tmp 26) rfl rfl rfl rfl (HB0.out.alloc _) rfl HS.out.1 ?_; intro w2 hb2 hf2; have HB2 := Lib.hid hb2; have HF2 := Lib.hid hf2; clear hb2 hf2))
  refine bodyPost_ret (results_sec2 rfl _ _ rfl HB2.out Tryz.underlying68 rfl HS.out.1) rfl ?_
  exact ⟨by rw [HG.out]; rfl, (HN0.out.al _).fr HF2.out (fun k hk => by have := HN0.out.size; omega)⟩
 | none =>
  have HG := Lib.hid (get_sure hf)
  have HF := Lib.hid hf
  obtain ⟨s, hs⟩ : ∃ s, s = (p.sure a).getD sec0 := ⟨_, rfl⟩
  have hs2 : SecOk s := by
   have := HD0.out.ok.get a
   rwa [HG.out, ← hs] at this
  have hv : (mf p.sure (.int .i64 a)).getD (.agg (secA sec0)) = .agg (secA s) := by
   rw [hs]
   cases hq : p.sure a <;> simp [mf, hq]
  rw [← hs] at HG
  have HS := Lib.hid hs2
  have HV := Lib.hid hv
  clear hf hs hs2 hv
  have c1 := fun o : Obj => (New.al (New.refl w0) o).cell_ (HD0.out.blk.cell 1)
  go_wp2_with (first
   | ((with_reducible refine atOp ⟨some 22, _, _, _, _, _⟩ ?_); refine wpList_mlook2 (o := ⟨some 22, _, _, _, _, _⟩) HD0.out.mw kI Tryz.underlying118 (zSec _) rfl (.tmp 20) (.tmp 21) rfl rfl _ _ rfl HK.out (.agg (secA sec0)) false (by simp [mf, HF.out]) (by simp [mf, HF.out]) ?_)
   | ((with_reducible refine atOp ⟨some 7, .alloc _, _, _, _, _⟩ ?_); refine wpList_newvar (s := sec0) rfl rfl rfl _ _ rfl secInfo rfl rfl rfl sec0_ok.1 ?_)
   | ((with_reducible refine atOp ⟨some 32, _, _, _, _, _⟩ ?_); refine wpList_mlook1 (o := ⟨some 32, _, _, _, _, _⟩) (HD0.out.ms.alloc _) kI Tryz.underlying118 (zSec _) rfl (.tmp 30) (.tmp 31) rfl rfl _ _ rfl HK.out (.agg (secA s)) HV.out ?_)
   | ((with_reducible refine atOp ⟨none, .store 68 (.tmp 4) _, _, _, _, _⟩ ?_); refine wpList_store_blk (s := s) (s0 := sec0) rfl (.tmp 4) (.tmp 32) rfl rfl rfl rfl (HB0.out.alloc _) rfl HS.out.1 ?_; intro w2 hb2 hf2; have HB2 := Lib.hid hb2; have HF2 := Lib.hid hf2; clear hb2 hf2))
  refine bodyPost_ret (results_sec2 rfl _ _ rfl HB2.out Tryz.underlying68 rfl HS.out.1) rfl ?_
  exact ⟨by rw [HG.out]; rfl, (HN0.out.al _).fr HF2.out (fun k hk => by have := HN0.out.size; omega)⟩
set_option maxHeartbeats 2000000 in
set_option maxRecDepth 100000 in
theorem read_bad {pt : Option Addr} {a n : Int} {w : World} (hmay : ∀ w', New w w' → Calls Tryz.prog 71 #[.pointer pt, .int .i64 a] w' fun e w'' => e = .returned (.iface 38 (.int .i64 n)) ∧ w' = w'') :
    Calls Tryz.prog 91 #[.pointer pt, .int .i64 a] w fun e w' => e = .returned (.tuple #[.agg (secA sec0), .iface 38 (.int .i64 n)]) ∧ New w w' := by
 have HM := Lib.hid hmay
 have hbuild : ∀ w, (Instr.build 68 #[]).run Tryz.prog w = .ok (.agg (secA sec0)) w := fun _ => by kernel_rfl
 clear hmay
 go_enter Tryz.func91, Tryz.ntmps91
 go_wp2_with fail
 obtain ⟨w0, hw0⟩ : ∃ w0 : World, w0 = w.alloc (.cells #[.int .u8 0, .int .u8 0, .int .u8 0, .int .u8 0, .int .u8 0, .int .u8 0, .int .u8 0, .int .u8 0, .int .u8 0, .int .u8 0, .int .u8 0, .int .u8 0, .int .u8 0, .int .u8 0, .int .u8 0, .int .u8 0, .int .u8 0, .int .u8 0, .int .u8 0, .int .u8 0, .int .u8 0, .int .u8 0, .int .u8 0, .int .u8 0, .int .u8 0, .int .u8 0, .int .u8 0, .int .u8 0, .int .u8 0, .int .u8 0, .int .u8 0, .int .u8 0, .int .u8 0, .int .u8 0, .int .u8 0, .int .u8 0, .int .u8 0, .int .u8 0, .int .u8 0, .int .u8 0, .int .u8 0, .int .u8 0, .int .u8 0, .int .u8 0, .int .u8 0, .int .u8 0, .int .u8 0, .int .u8 0, .int .u8 0, .int .u8 0, .int .u8 0, .int .u8 0, .int .u8 0, .int .u8 0, .int .u8 0, .int .u8 0, .int .u8 0, .int .u8 0, .int .u8 0, .int .u8 0, .int .u8 0, .int .u8 0, .int .u8 0, .int .u8 0] 68) := ⟨_, rfl⟩
 have HN0 : Hid (New w w0) := Lib.hid (by rw [hw0]; exact New.al (New.refl _) _)
 have HB0 : Hid (Blk w0 w.heap.size 68 (secA sec0)) := Lib.hid (by rw [hw0]; exact Blk.new _ _ _)
 rw [← hw0]
 clear hw0
 refine (HM.out w0 HN0.out).mono ?_
 rintro e w1 ⟨rfl, rfl⟩
 go_wp2_with (first
     | ((with_reducible refine atOp ⟨none, .store 68 (.tmp 4) _, _, _, _, _⟩ ?_); refine wpList_store_blk (s := sec0) (s0 := sec0) rfl (.tmp 4) (.tmp 14) rfl rfl rfl rfl HB0.out rfl sec0_ok.1 ?_; intro w2 hb2 hf2; have HB2 := Lib.hid hb2; have HF2 := Lib.hid hf2; clear hb2 hf2))
 refine bodyPost_ret (results_sec2 rfl _ _ rfl HB2.out Tryz.underlying68 rfl sec0_ok.1) rfl ?_
 exact ⟨rfl, HN0.out.fr HF2.out (fun k hk => by omega)⟩
theorem read_out {w : World} {base g bs bf : Nat} {v : Value} {p : DP} (h : Dk w base g bs bf v p) {a : Int} (h1 : ¬ (0 ≤ a ∧ a < p.size)) : Calls Tryz.prog 91 #[.pointer (some ⟨g, 0, none⟩), .int .i64 a] w fun e w' => e = .returned (.tuple #[.agg (secA sec0), .iface 38 (.int .i64 1)]) ∧ New w w' := read_bad fun w' hN => may_out (h.new hN) h1
end Go.Proofs.YtfchcdbfalgdlaaGreatDoor
