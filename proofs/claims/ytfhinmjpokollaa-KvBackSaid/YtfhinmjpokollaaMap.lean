/- Maps that a call makes, with elements of whatever type: a map is told by a function from its keys to values. No condition. -/
import Derived.Test.YtfhinmjpokollaaMem
import Derived.Maps.OwnOps
import Derived.Maps.OwnSet
import Derived.Maps.Views
namespace Go.Proofs.Ytfhinmjpokollaa
set_option linter.unusedVariables false
set_option linter.unusedSimpArgs false
set_option linter.constructorNameAsVariable false
open Go.RowKit Go.Maps

/-- An element as itself. -/
def Rv (v : Value) : Option (DataW Value × List MemPlace) := some (.held v, [])
def valOf : DataW Value → Value | .held v => v | _ => undef

/-- f, but v at key kl. -/
def putF (f : Lit → Option Value) (kl : Lit) (v : Option Value) : Lit → Option Value := fun x => if x.sameKey kl then v else f x
theorem putF_same {f : Lit → Option Value} {kl : Lit} (hk : WideAt.IsKeyLit kl) (v : Option Value) : putF f kl v kl = v := by
  unfold putF
  rw [if_pos (by cases kl <;> simp_all [Lit.sameKey, WideAt.IsKeyLit])]
theorem putF_other {f : Lit → Option Value} {kl x : Lit} (h : x ≠ kl) (v : Option Value) : putF f kl v x = f x := by
  unfold putF
  rw [if_neg (by rw [Maps.sameKey_ne h]; simp)]
theorem putF_int {f : Lit → Option Value} {q : IntKind} (a b : Int) (v : Option Value) : putF f (.int q a) v (.int q b) = if b = a then v else f (.int q b) := by
  by_cases h : b = a
  · subst h; rw [if_pos rfl]; exact putF_same (kl := .int q b) trivial v
  · rw [if_neg h]; exact putF_other (by simpa using h) v

/-- Block b is a map of at most n entries: f says of each key what it holds. -/
def MapAt (w : World) (P : Program) (k : TypeId) (b n : Nat) (f : Lit → Option Value) : Prop :=
  ∃ D : DataW Value, w.ownsMap P k Rv b n D ∧ ∀ kl, f kl = if Maps.has D kl then some (valOf (D.atKey kl (.held undef))) else none

section
variable {P : Program} {k : TypeId} {w w' : World} {b n : Nat} {f : Lit → Option Value}
theorem MapAt.lt (h : MapAt w P k b n f) : b < w.heap.size := by obtain ⟨D, hD, _⟩ := h; exact hD.lt
theorem MapAt.mono (h : MapAt w P k b n f) {m : Nat} (hm : n ≤ m) : MapAt w P k b m f := by obtain ⟨D, hD, hf⟩ := h; exact ⟨D, hD.mono hm, hf⟩
theorem MapAt.fr {S : Nat → Prop} (h : MapAt w P k b n f) (hf : Fr S w w') (hs : ¬ S b) : MapAt w' P k b n f := by
  obtain ⟨D, hD, h2⟩ := h
  have hlt := hD.lt
  obtain ⟨es, clock, hb, F, hsz, e⟩ := hD
  exact ⟨D, ⟨es, clock, (hf.block b hlt hs).trans hb, F, hsz, e⟩, h2⟩
theorem MapAt.alloc (h : MapAt w P k b n f) (o : Obj) : MapAt (w.alloc o) P k b n f := h.fr (S := NoB) ((Fr.refl _ _).alloc _) (fun x => x)
theorem MapAt.made (w : World) (P : Program) (k : TypeId) : MapAt (w.alloc (.map #[] 0)) P k w.heap.size 0 (fun _ => none) :=
  ⟨.map [], World.ownsMap_made w P k Rv, fun kl => by simp [Maps.has]⟩

/-- What a look-up finds. -/
theorem MapAt.look {t e : TypeId} (h : MapAt w P k b n f) (K : Keyed P k) (ht : P.underlying t = some (.map k e)) {z : Value} (hz : (zeroValue e).run P w = .ok z w) {key : Value} {kl : Lit} (hkey : keyOf P k key = some kl) :
    (Instr.lookup t (.map (some b)) key true).run P w = .ok (.tuple #[(f kl).getD z, .bool (f kl).isSome]) w ∧ (Instr.lookup t (.map (some b)) key false).run P w = .ok ((f kl).getD z) w := by
  obtain ⟨D, hD, hf⟩ := h
  obtain ⟨es, clock, hb, F, _, rfl⟩ := hD
  rcases Maps.fit_look true K ht hz hb F hkey with ⟨hrun, _, hat⟩ | ⟨e0, y, _, _, hrun, hRv, hat, _⟩
  · have hh := Maps.has_false_of_atKey hat
    rcases Maps.fit_look false K ht hz hb F hkey with ⟨hrun', _, hat'⟩ | ⟨e0', y', _, _, hrun', hRv', hat', _⟩
    · rw [hf kl, hh]; exact ⟨hrun, hrun'⟩
    · exact absurd (Maps.has_true_of_atKey hat') (by rw [hh]; simp)
  · have hh := Maps.has_true_of_atKey hat
    have hy : y = (.held e0.val, []) := by unfold Rv at hRv; injection hRv with hRv; exact hRv.symm
    rcases Maps.fit_look false K ht hz hb F hkey with ⟨hrun', _, hat'⟩ | ⟨e0', y', _, _, hrun', hRv', hat', _⟩
    · exact absurd (Maps.has_false_of_atKey hat') (by rw [hh]; simp)
    · have hy' : y' = (.held e0'.val, []) := by unfold Rv at hRv'; injection hRv' with hRv'; exact hRv'.symm
      have e1 := hat (.held undef)
      have e2 := hat' (.held undef)
      rw [e1, hy, hy'] at e2
      injection e2 with e2
      rw [hf kl, hh, if_pos rfl, e1, hy]
      refine ⟨hrun, ?_⟩
      rw [hrun', ← e2]; rfl

/-- What a store leaves. -/
theorem MapAt.store {t e : TypeId} (h : MapAt w P k b n f) (K : Keyed P k) (ht : P.underlying t = some (.map k e)) (hn : n < maxLen) {key : Value} {kl : Lit} (hkey : keyOf P k key = some kl) (val : Value) :
    ∃ w', (Instr.mapUpdate t (.map (some b)) key val).run P w = .ok () w' ∧ MapAt w' P k b (n + 1) (putF f kl (some val)) ∧ Fr (fun j => j = b) w w' := by
  obtain ⟨D, hD, hf⟩ := h
  obtain ⟨w', hrun, h1, h2⟩ := hD.update K ht hn hkey (show Rv val = some (.held val, []) from rfl)
  refine ⟨w', hrun, ⟨_, h1, fun x => ?_⟩, (Fr.refl _ _).grown h2 (fun j _ hj => by injection hj with hj; exact hj.symm)⟩
  by_cases hx : x = kl
  · subst hx
    rw [putF_same (K.key hkey), Maps.has_put_same hD.isMap (K.key hkey), Maps.atKey_put_same hD.isMap (K.key hkey)]
    rfl
  · rw [putF_other hx, Maps.has_put_other hx, Maps.atKey_put_other hx, hf x]

/-- What a delete leaves. -/
theorem MapAt.drop {t e : TypeId} (h : MapAt w P k b n f) (K : Keyed P k) (ht : P.underlying t = some (.map k e)) {key : Value} {kl : Lit} (hkey : keyOf P k key = some kl) (ty : TypeId) :
    ∃ w', (Builtin.delete_ #[t, k] ty #[.map (some b), key]).run P w = .ok (.tuple #[]) w' ∧ MapAt w' P k b n (putF f kl none) ∧ Fr (fun j => j = b) w w' := by
  obtain ⟨D, hD, hf⟩ := h
  obtain ⟨w', hrun, h1, h2⟩ := hD.drop K ht hkey ty
  refine ⟨w', hrun, ⟨_, h1, fun x => ?_⟩, (Fr.refl _ _).grown h2.grown (fun j _ hj => by injection hj with hj; exact hj.symm)⟩
  by_cases hx : x = kl
  · subst hx
    rw [putF_same (K.key hkey), Maps.has_del_same]; rfl
  · rw [putF_other hx, Maps.has_del_other hx, Maps.atKey_del_other hx, hf x]
end

section
variable {P : Program} {w : World} {ops : Array Oper} {rest : List Oper} {o : Oper} {a : Act} {Q : Exit → Act → World → Prop} {b n : Nat} {f : Lit → Option Value}
/-- 'v, ok := m[k]' at the operation: 'v', 'ok' written out by whoever calls. -/
theorem wpList_mlook2 {k e t : TypeId} (hM : MapAt w P k b n f) (K : Keyed P k) (ht : P.underlying t = some (.map k e)) {z : Value} (hz : (zeroValue e).run P w = .ok z w) (hg : o.guard = none) (m x : Operand) (hop : o.op = Op.lookup t m x true)
    (hm : a.eval m = .map (some b)) (key : Value) (kl : Lit) (hx : a.eval x = key) (hkey : keyOf P k key = some kl) (v : Value) (ok : Bool) (hv : (f kl).getD z = v) (hok : (f kl).isSome = ok)
    (hK : wpList P ops Q rest (a.put o.dst (.tuple #[v, .bool ok])) w) : wpList P ops Q (o :: rest) a w := by
  refine wpList_plain hg fun K' hK' => ?_
  have hrun := (hM.look K ht hz hkey).1
  rw [hv, hok] at hrun
  unfold Oper.wp
  simp [execOp, hop, hm, hx, hrun, Result.andThen]
  exact hK' _ _ hK
theorem wpList_mlook1 {k e t : TypeId} (hM : MapAt w P k b n f) (K : Keyed P k) (ht : P.underlying t = some (.map k e)) {z : Value} (hz : (zeroValue e).run P w = .ok z w) (hg : o.guard = none) (m x : Operand) (hop : o.op = Op.lookup t m x false)
    (hm : a.eval m = .map (some b)) (key : Value) (kl : Lit) (hx : a.eval x = key) (hkey : keyOf P k key = some kl) (v : Value) (hv : (f kl).getD z = v)
    (hK : wpList P ops Q rest (a.put o.dst v) w) : wpList P ops Q (o :: rest) a w := by
  refine wpList_plain hg fun K' hK' => ?_
  have hrun := (hM.look K ht hz hkey).2
  rw [hv] at hrun
  unfold Oper.wp
  simp [execOp, hop, hm, hx, hrun, Result.andThen]
  exact hK' _ _ hK
theorem wpList_mstore {k e t : TypeId} (hM : MapAt w P k b n f) (K : Keyed P k) (ht : P.underlying t = some (.map k e)) (hn : n < maxLen) (hg : o.guard = none) (m x v : Operand) (hop : o.op = Op.mapUpdate t m x v)
    (hm : a.eval m = .map (some b)) (key val : Value) (kl : Lit) (hx : a.eval x = key) (hv : a.eval v = val) (hkey : keyOf P k key = some kl)
    (hK : ∀ w', MapAt w' P k b (n + 1) (putF f kl (some val)) → Fr (fun j => j = b) w w' → wpList P ops Q rest (a.put o.dst undef) w') : wpList P ops Q (o :: rest) a w := by
  refine wpList_plain hg fun K' hK' => ?_
  obtain ⟨w', hrun, r1, r2⟩ := hM.store K ht hn hkey val
  unfold Oper.wp
  simp [execOp, hop, hm, hx, hv, hrun, Result.andThen]
  exact hK' _ _ (hK w' r1 r2)
theorem wpList_mdel {k e t : TypeId} (hM : MapAt w P k b n f) (K : Keyed P k) (ht : P.underlying t = some (.map k e)) (hg : o.guard = none) (m x : Operand) (hop : o.op = Op.call { callee := Callee.builtin Builtin.delete, args := #[m, x], argTypes := #[t, k] })
    (hm : a.eval m = .map (some b)) (key : Value) (kl : Lit) (hx : a.eval x = key) (hkey : keyOf P k key = some kl)
    (hK : ∀ w', MapAt w' P k b n (putF f kl none) → Fr (fun j => j = b) w w' → wpList P ops Q rest (a.put o.dst (.tuple #[])) w') : wpList P ops Q (o :: rest) a w := by
  refine wpList_plain hg fun K' hK' => ?_
  obtain ⟨w', hrun, r1, r2⟩ := hM.drop K ht hkey o.type
  unfold Oper.wp
  simp [execOp, hop, resolve, invoke, builtin, hm, hx, hrun, Result.andThen]
  exact hK' _ _ (hK w' r1 r2)
theorem step_mstore {k e t : TypeId} {K : Act → World → Prop} {F : Prop} (hM : MapAt w P k b n f) (KK : Keyed P k) (ht : P.underlying t = some (.map k e)) (hn : n < maxLen) (hg : o.guard = none) (m x v : Operand) (hop : o.op = Op.mapUpdate t m x v)
    (hm : a.eval m = .map (some b)) (key val : Value) (kl : Lit) (hx : a.eval x = key) (hv : a.eval v = val) (hkey : keyOf P k key = some kl)
    (hK : ∀ w', MapAt w' P k b (n + 1) (putF f kl (some val)) → Fr (fun j => j = b) w w' → K (a.put o.dst undef) w') :
    if Region.wanted o (yielded ops a.tmps) = true then Oper.wp P o a w K Q else F := by
  have hw : Region.wanted o (yielded ops a.tmps) = true := by simp [Region.wanted, hg]
  rw [if_pos hw]
  obtain ⟨w', hrun, r1, r2⟩ := hM.store KK ht hn hkey val
  unfold Oper.wp
  simp [execOp, hop, hm, hx, hv, hrun, Result.andThen]
  exact hK w' r1 r2
end
end Go.Proofs.Ytfhinmjpokollaa
