/- Maps that a call makes, more of them: cleared, cloned, laid into another one; how many entries there can be. No condition. -/
import Derived.Test.YtfhinmjpokollaaMap
import Derived.Test.YtfhinmjpokollaaNew
import Derived.Lib.SlMapMerge
import Derived.Maps.RangeWalk
import Derived.Shelf.SlMaps.Clone
namespace Go.Proofs.Ytfhinmjpokollaa
set_option linter.unusedVariables false
set_option linter.unusedSimpArgs false
set_option linter.constructorNameAsVariable false
open Go.RowKit Go.Maps
open Go.WideElems (Fit rg)

/-- f, but where h says something, that. -/
def orF (h f : Lit → Option Value) : Lit → Option Value := fun x => match h x with | some v => some v | none => f x

theorem nodup_lt {l : List Nat} : ∀ {m : Nat}, l.Nodup → (∀ x ∈ l, x < m) → l.length ≤ m := by
  intro m
  induction m generalizing l with
  | zero => intro _ h; cases l with
    | nil => simp
    | cons x l => exact absurd (h x (by simp)) (by omega)
  | succ m ih =>
    intro hn h
    have := ih (l := l.erase m) (hn.erase _) (fun x hx => by
      have h1 := h x (List.mem_of_mem_erase hx)
      have h2 : x ≠ m := fun e => by subst e; exact (List.Nodup.not_mem_erase hn) hx
      omega)
    have h3 := List.length_erase (a := m) (l := l)
    split at h3 <;> omega

section
variable {P : Program} {k : TypeId} {w w' : World} {b n : Nat} {f : Lit → Option Value}
theorem MapAt.clear {t e : TypeId} (h : MapAt w P k b n f) (ht : P.underlying t = some (.map k e)) (ty : TypeId) :
    ∃ w', (Builtin.clear_ #[t] ty #[.map (some b)]).run P w = .ok (.tuple #[]) w' ∧ MapAt w' P k b 0 (fun _ => none) ∧ Fr (fun j => j = b) w w' := by
  obtain ⟨D, ⟨es, clock, hb, F, hsz, hD⟩, hf⟩ := h
  have hset := MapKept.heap_set (o' := .map #[] clock) hb
  refine ⟨{ w with heap := w.heap.setIfInBounds b (.map #[] clock) }, by simp [Builtin.clear_, run_underlying ht, MapKept.run_getObj_map hb, MapKept.run_setObj_map _ hb, Result.andThen], ⟨.map [], ⟨#[], clock, hset.1, ⟨by simp, MapKept.stamped_empty clock, by simp⟩, Nat.le_refl _, rfl⟩, fun kl => by simp [Maps.has]⟩, ⟨rfl, rfl, rfl, by simp, fun j _ hj => hset.2 j hj⟩⟩

/-- The keys are few: so are the entries. -/
theorem MapAt.tight {q : IntKind} (h : MapAt w P k b n f) (K : Keyed P k) (m : Nat) (hk : ∀ kl, f kl ≠ none → ∃ a : Nat, kl = .int q a ∧ a < m) : MapAt w P k b m f := by
  obtain ⟨D, ⟨es, clock, hb, F, hsz, rfl⟩, hf⟩ := h
  refine ⟨_, ⟨es, clock, hb, F, ?_, rfl⟩, hf⟩
  have hp := Maps.fit_apart K F
  have hin : ∀ p ∈ es.toList.map (rg P k Rv), ∃ a : Nat, p.1 = .int q a ∧ a < m := fun p hp' => by
    refine hk p.1 ?_
    rw [hf p.1]
    have : Maps.has (DataW.map ((es.toList.map (rg P k Rv)).foldr DataW.insert [])) p.1 = true :=
      List.any_eq_true.2 ⟨p, mem_sorted.2 hp', WideAt.sameKey_self ((Maps.fit_keys F |> fun kk => K.one.key (kk p hp')))⟩
    rw [this]
    simp
  have hnum : ((es.toList.map (rg P k Rv)).map fun p => match p.1 with | .int _ a => a.toNat | _ => 0).length ≤ m := by
    refine nodup_lt ?_ ?_
    · rw [List.Nodup, List.pairwise_map]
      refine List.Pairwise.imp_of_mem ?_ hp
      intro p r hp' hr' hne he
      obtain ⟨a, ha, _⟩ := hin p hp'
      obtain ⟨c, hc, _⟩ := hin r hr'
      rw [ha, hc] at he
      simp at he
      exact hne (by rw [ha, hc, he])
    · intro x hx
      obtain ⟨p, hp', rfl⟩ := List.mem_map.1 hx
      obtain ⟨a, ha, hlt⟩ := hin p hp'
      rw [ha]
      simpa using hlt
  simpa using hnum

/-- One map laid into another, as the rounds go. -/
theorem merged_end {Dout Dd Ds : DataW Value} {left : Lit → Bool} (hM : Merged Dout Dd Ds left) (hl : ∀ k, left k = false) {fd fs : Lit → Option Value}
    (hd : ∀ kl, fd kl = if Maps.has Dd kl then some (valOf (Dd.atKey kl (.held undef))) else none) (hs : ∀ kl, fs kl = if Maps.has Ds kl then some (valOf (Ds.atKey kl (.held undef))) else none) :
    ∀ kl, orF fs fd kl = if Maps.has Dout kl then some (valOf (Dout.atKey kl (.held undef))) else none := by
  intro kl
  have h1 := hM.1 kl
  have h2 := hM.2 kl (.held undef)
  rw [hl kl] at h1 h2
  simp only [Bool.not_false, Bool.and_true] at h1 h2
  unfold orF
  rw [hs kl, hd kl, h1, h2]
  cases Maps.has Ds kl <;> cases Maps.has Dd kl <;> simp

/-- A clone. -/
theorem MapAt.cloned {t : TypeId} (h : MapAt w P k b n f) : ∃ o, (Extern.MapsClone.clone #[.iface t (.map (some b))]).run P w = .ok (.iface t (.map (some w.heap.size))) (w.alloc o) ∧ MapAt (w.alloc o) P k w.heap.size n f := by
  obtain ⟨D, ⟨es, clock, hb, F, hsz, hD⟩, hf⟩ := h
  exact ⟨_, run_maps_clone_sl w t hb, ⟨D, ⟨es, clock, (MapKept.heap_alloc w _).1, F, hsz, hD⟩, hf⟩⟩
end

section
variable {P : Program} {w : World} {ops : Array Oper} {rest : List Oper} {o : Oper} {a : Act} {Q : Exit → Act → World → Prop} {b n : Nat} {f : Lit → Option Value}
theorem wpList_mclear {k e t : TypeId} (hM : MapAt w P k b n f) (ht : P.underlying t = some (.map k e)) (hg : o.guard = none) (m : Operand) (hop : o.op = Op.call { callee := Callee.builtin Builtin.clear, args := #[m], argTypes := #[t] })
    (hm : a.eval m = .map (some b))
    (hK : ∀ w', MapAt w' P k b 0 (fun _ => none) → Fr (fun j => j = b) w w' → wpList P ops Q rest (a.put o.dst (.tuple #[])) w') : wpList P ops Q (o :: rest) a w := by
  refine wpList_plain hg fun K' hK' => ?_
  obtain ⟨w', hrun, r1, r2⟩ := hM.clear ht o.type
  unfold Oper.wp
  simp [execOp, hop, resolve, invoke, builtin, hm, hrun, Result.andThen]
  exact hK' _ _ (hK w' r1 r2)
end
end Go.Proofs.Ytfhinmjpokollaa
