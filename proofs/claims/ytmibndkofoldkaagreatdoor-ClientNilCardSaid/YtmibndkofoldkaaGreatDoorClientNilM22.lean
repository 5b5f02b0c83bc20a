/- Texts of one proof, one behind the other: MapB, DkP, DkA, DkB, DkC, DkD, DkI, DkT. No condition but each one's own. -/
import Derived.Test.YtmibndkofoldkaaGreatDoorClientNilM2
import Derived.Test.YtmibndkofoldkaaGreatDoorClientNilM1
import Derived.Lib.SlMapMerge
import Derived.Maps.RangeWalk
import Derived.Shelf.SlMaps.Clone
import Derived.Test.YtmibndkofoldkaaGreatDoorClientNilM6
import Derived.SizedLaws
namespace Go.Proofs.YtmibndkofoldkaaGreatDoor
set_option linter.unusedVariables false
set_option linter.unusedSimpArgs false
set_option linter.constructorNameAsVariable false
open Go.RowKit Go.Maps
open Go.WideElems (Fit rg)
def orF (h f : Lit → Option Value) : Lit → Option Value := fun x => match h x with | some v => some v | none => f x
theorem nodup_lt {l : List Nat} : ∀ {m : Nat}, l.Nodup → (∀ x ∈ l, x < m) → l.length ≤ m := by
 intro m
 induction m generalizing l with
 | zero => intro _ h; cases l with
  | nil => simp
  | cons x l => exact absurd (h x (by simp)) (by omega)
 | succ m ih =>
  intro hn h
  have := ih (l := l.erase m) (hn.erase _) (fun x hx => by
   have h1 := h x (List.mem_of_mem_erase hx)
   have h2 : x ≠ m := fun e => by subst e; exact (List.Nodup.not_mem_erase hn) hx
   omega)
  have h3 := List.length_erase (a := m) (l := l)
  split at h3 <;> omega
section
variable {P : Program} {k : TypeId} {w w' : World} {b n : Nat} {f : Lit → Option Value}
theorem MapAt.clear {t e : TypeId} (h : MapAt w P k b n f) (ht : P.underlying t = some (.map k e)) (ty : TypeId) :
    ∃ w', (Builtin.clear_ #[t] ty #[.map (some b)]).run P w = .ok (.tuple #[]) w' ∧ MapAt w' P k b 0 (fun _ => none) ∧ Fr (fun j => j = b) w w' := by
 obtain ⟨D, ⟨es, clock, hb, F, hsz, hD⟩, hf⟩ := h
 have hset := MapKept.heap_set (o' := .map #[] clock) hb
 refine ⟨{ w with heap := w.heap.setIfInBounds b (.map #[] clock) }, by simp [Builtin.clear_, run_underlying ht, MapKept.run_getObj_map hb, MapKept.run_setObj_map _ hb, Result.andThen], ⟨.map [], ⟨#[], clock, hset.1, ⟨by simp, MapKept.stamped_empty clock, by simp⟩, Nat.le_refl _, rfl⟩, fun kl => by simp [Maps.has]⟩, ⟨rfl, rfl, rfl, by simp, fun j _ hj => hset.2 j hj⟩⟩
theorem MapAt.tight {q : IntKind} (h : MapAt w P k b n f) (K : Keyed P k) (m : Nat) (hk : ∀ kl, f kl ≠ none → ∃ a : Nat, kl = .int q a ∧ a < m) : MapAt w P k b m f := by
 obtain ⟨D, ⟨es, clock, hb, F, hsz, rfl⟩, hf⟩ := h
 refine ⟨_, ⟨es, clock, hb, F, ?_, rfl⟩, hf⟩
 have hp := Maps.fit_apart K F
 have hin : ∀ p ∈ es.toList.map (rg P k Rv), ∃ a : Nat, p.1 = .int q a ∧ a < m := fun p hp' => by
  refine hk p.1 ?_
  rw [hf p.1]
  have : Maps.has (DataW.map ((es.toList.map (rg P k Rv)).foldr DataW.insert [])) p.1 = true :=
   List.any_eq_true.2 ⟨p, mem_sorted.2 hp', WideAt.sameKey_self ((Maps.fit_keys F |> fun kk => K.one.key (kk p hp')))⟩
  rw [this]
  simp
 have hnum : ((es.toList.map (rg P k Rv)).map fun p => match p.1 with | .int _ a => a.toNat | _ => 0).length ≤ m := by
  refine nodup_lt ?_ ?_
  · rw [List.Nodup, List.pairwise_map]
    refine List.Pairwise.imp_of_mem ?_ hp
    intro p r hp' hr' hne he
    obtain ⟨a, ha, _⟩ := hin p hp'
    obtain ⟨c, hc, _⟩ := hin r hr'
    rw [ha, hc] at he
    simp at he
    exact hne (by rw [ha, hc, he])
  · intro x hx
    obtain ⟨p, hp', rfl⟩ := List.mem_map.1 hx
    obtain ⟨a, ha, hlt⟩ := hin p hp'
    rw [ha]
    simpa using hlt
 simpa using hnum
theorem merged_end {Dout Dd Ds : DataW Value} {left : Lit → Bool} (hM : Merged Dout Dd Ds left) (hl : ∀ k, left k = false) {fd fs : Lit → Option Value}
    (hd : ∀ kl, fd kl = if Maps.has Dd kl then some (valOf (Dd.atKey kl (.held undef))) else none) (hs : ∀ kl, fs kl = if Maps.has Ds kl then some (valOf (Ds.atKey kl (.held undef))) else none) :
    ∀ kl, orF fs fd kl = if Maps.has Dout kl then some (valOf (Dout.atKey kl (.held undef))) else none := by
 intro kl
 have h1 := hM.1 kl
 have h2 := hM.2 kl (.held undef)
 rw [hl kl] at h1 h2
 simp only [Bool.not_false, Bool.and_true] at h1 h2
 unfold orF
 rw [hs kl, hd kl, h1, h2]
 cases Maps.has Ds kl <;> cases Maps.has Dd kl <;> simp
end
section
variable {P : Program} {w : World} {ops : Array Oper} {rest : List Oper} {o : Oper} {a : Act} {Q : Exit → Act → World → Prop} {b n : Nat} {f : Lit → Option Value}
theorem wpList_mclear {k e t : TypeId} (hM : MapAt w P k b n f) (ht : P.underlying t = some (.map k e)) (hg : o.guard = none) (m : Operand) (hop : o.op = Op.call { callee := Callee.builtin Builtin.clear, args := #[m], argTypes := #[t] })
    (hm : a.eval m = .map (some b))
    (hK : ∀ w', MapAt w' P k b 0 (fun _ => none) → Fr (fun j => j = b) w w' → wpList P ops Q rest (a.put o.dst (.tuple #[])) w') : wpList P ops Q (o :: rest) a w := by
 refine wpList_plain hg fun K' hK' => ?_
 obtain ⟨w', hrun, r1, r2⟩ := hM.clear ht o.type
 unfold Oper.wp
 simp [execOp, hop, resolve, invoke, builtin, hm, hrun, Result.andThen]
 exact hK' _ _ (hK w' r1 r2)
end
end Go.Proofs.YtmibndkofoldkaaGreatDoor
namespace Go.Proofs.YtmibndkofoldkaaGreatDoor
set_option linter.unusedVariables false
set_option linter.unusedSimpArgs false
set_option linter.constructorNameAsVariable false
open Go.RowKit Go.Maps
def SecOk (s : List Int) : Prop := s.length = 64 ∧ Byt s
def sec0 : List Int := List.replicate 64 0
theorem sec0_ok : SecOk sec0 := ⟨by simp [sec0], fun x hx => by simp [sec0] at hx; omega⟩
def i64s (xs : List Int) : List Value := xs.map (Value.int .i64)
theorem i64s_app (xs : List Int) (x : Int) : i64s (xs ++ [x]) = i64s xs ++ [.int .i64 x] := by simp [i64s]
theorem elI : ElemOf Tryz.prog 96 3 1 8 := ElemOf.mk' (z := .int .i64 0) Tryz.underlying96 (by kernel_rfl) rfl (by decide)
theorem kI : Keyed Tryz.prog 3 := int_keyed Tryz.underlying3
structure DP where
 size : Nat
 sure : Int → Option (List Int)
 fresh : Int → Option (List Int)
 order : List Int
 fuse : Int
 down : Bool
def upd (F : Int → Option (List Int)) (a : Int) (s : Option (List Int)) : Int → Option (List Int) := fun x => if x = a then s else F x
structure DP.Ok (p : DP) : Prop where
 s1 : 1 ≤ p.size
 s2 : p.size ≤ 16384
 sureR : ∀ a s, p.sure a = some s → (0 ≤ a ∧ a < p.size) ∧ SecOk s
 freshR : ∀ a s, p.fresh a = some s → (0 ≤ a ∧ a < p.size) ∧ SecOk s
 nod : p.order.Nodup
 ord : ∀ a, a ∈ p.order ↔ p.fresh a ≠ none
 fz : -1 ≤ p.fuse ∧ p.fuse ≤ 9223372036854775807
def DP.new (n : Nat) : DP := ⟨n, fun _ => none, fun _ => none, [], -1, false⟩
def DP.get (p : DP) (a : Int) : List Int := match p.fresh a with | some s => s | none => (p.sure a).getD sec0
def DP.put (p : DP) (a : Int) (s : List Int) : DP := { p with order := if p.fresh a = none then p.order ++ [a] else p.order, fresh := upd p.fresh a (some s) }
def DP.burn (p : DP) : DP := { p with fuse := if 0 < p.fuse then p.fuse - 1 else p.fuse }
def DP.write (p : DP) (a : Int) (s : List Int) : DP := p.burn.put a s
def DP.sync (p : DP) : DP := { p with sure := fun a => match p.fresh a with | some s => some s | none => p.sure a, fresh := fun _ => none, order := [] }
theorem DP.new_ok {n : Nat} (h1 : 1 ≤ n) (h2 : n ≤ 16384) : (DP.new n).Ok :=
 ⟨h1, h2, fun _ _ h => by simp [DP.new] at h, fun _ _ h => by simp [DP.new] at h, by simp [DP.new], fun a => by simp [DP.new], by simp [DP.new]⟩
theorem DP.Ok.get {p : DP} (h : p.Ok) (a : Int) : SecOk (p.get a) := by
 unfold DP.get
 cases hf : p.fresh a with
 | some s => exact (h.freshR a s hf).2
 | none =>
  cases hs : p.sure a with
  | some s => exact (h.sureR a s hs).2
  | none => exact sec0_ok
theorem DP.Ok.inOrd {p : DP} (h : p.Ok) {a : Int} (ha : a ∈ p.order) : 0 ≤ a ∧ a < p.size := by
 have := (h.ord a).1 ha
 cases hf : p.fresh a with
 | none => exact absurd hf this
 | some s => exact (h.freshR a s hf).1
theorem DP.Ok.len {p : DP} (h : p.Ok) : p.order.length ≤ p.size := by
 have : (p.order.map Int.toNat).length ≤ p.size := by
  refine nodup_lt ?_ ?_
  · rw [List.Nodup, List.pairwise_map]
    refine List.Pairwise.imp_of_mem ?_ h.nod
    intro x y hx hy hne he
    have := h.inOrd hx
    have := h.inOrd hy
    omega
  · intro x hx
    obtain ⟨y, hy, rfl⟩ := List.mem_map.1 hx
    have := h.inOrd hy
    omega
 simpa using this
theorem DP.Ok.put {p : DP} (h : p.Ok) {a : Int} (ha : 0 ≤ a ∧ a < p.size) {s : List Int} (hs : SecOk s) : (p.put a s).Ok := by
 refine ⟨h.s1, h.s2, h.sureR, ?_, ?_, ?_, ?_⟩
 · intro b t hb
   simp only [DP.put, upd] at hb
   split at hb
   · next e => subst e; injection hb with hb; subst hb; exact ⟨ha, hs⟩
   · exact h.freshR b t hb
 · simp only [DP.put]
   split
   · next hn =>
     rw [List.nodup_append]
     refine ⟨h.nod, by simp, ?_⟩
     intro x hx y hy e
     simp at hy
     subst hy e
     exact (h.ord x).1 hx hn
   · exact h.nod
 · intro b
   simp only [DP.put, upd]
   by_cases e : b = a
   · subst e
     simp only [if_true]
     split
     · simp
     · next hn => simp [(h.ord b).2 hn]
   · rw [if_neg e]
     split
     · simp [e, h.ord b]
     · exact h.ord b
 · exact h.fz
theorem DP.Ok.burn {p : DP} (h : p.Ok) : p.burn.Ok := ⟨h.s1, h.s2, h.sureR, h.freshR, h.nod, h.ord, by have := h.fz; simp only [DP.burn]; split <;> omega⟩
theorem DP.Ok.write {p : DP} (h : p.Ok) {a : Int} (ha : 0 ≤ a ∧ a < p.size) {s : List Int} (hs : SecOk s) : (p.write a s).Ok := h.burn.put ha hs
theorem DP.Ok.sync {p : DP} (h : p.Ok) : p.sync.Ok := by
 refine ⟨h.s1, h.s2, ?_, by simp [DP.sync], by simp [DP.sync], by simp [DP.sync], h.fz⟩
 intro a s hs
 simp only [DP.sync] at hs
 cases hf : p.fresh a with
 | some t => rw [hf] at hs; injection hs with hs; subst hs; exact h.freshR a t hf
 | none => rw [hf] at hs; exact h.sureR a s hs
def mf (F : Int → Option (List Int)) : Lit → Option Value
 | .int .i64 a => (F a).map fun s => .agg (secA s)
 | _ => none
theorem mf_upd (F : Int → Option (List Int)) (a : Int) (s : Option (List Int)) : putF (mf F) (.int .i64 a) (s.map fun s => .agg (secA s)) = mf (upd F a s) := by
 funext x
 by_cases h : x = .int .i64 a
 · subst h
   rw [putF_same (by trivial)]
   simp [mf, upd]
 · rw [putF_other h]
   unfold mf upd
   split
   · next b => rw [if_neg (by rintro rfl; exact h rfl)]
   · rfl
theorem mf_or (F G : Int → Option (List Int)) : orF (mf F) (mf G) = mf fun a => match F a with | some s => some s | none => G a := by
 funext x
 unfold orF mf
 split
 · next b v h => split at h
                 · next a => cases hF : F a with
                   | none => rw [hF] at h; cases h
                   | some s => rw [hF] at h; simp [← h, hF]
                 · cases h
 · next b h => split at h
               · next a => cases hF : F a with
                 | none => simp [hF]
                 | some s => rw [hF] at h; cases h
               · rfl
theorem mf_none : mf (fun _ => none) = fun _ => none := by funext x; unfold mf; split <;> rfl
theorem mf_shape {F : Int → Option (List Int)} {n : Nat} (h : ∀ a s, F a = some s → (0 ≤ a ∧ a < n) ∧ SecOk s) {kl : Lit} {v : Value} (hv : mf F kl = some v) : ∃ s, v = .agg (secA s) ∧ SecOk s := by
 unfold mf at hv
 split at hv
 · next a => cases hF : F a with
   | none => rw [hF] at hv; cases hv
   | some s => rw [hF] at hv; injection hv with hv; exact ⟨s, hv.symm, (h a s hF).2⟩
 · cases hv
theorem mf_keys {F : Int → Option (List Int)} {n : Nat} (h : ∀ a s, F a = some s → (0 ≤ a ∧ a < n) ∧ SecOk s) (kl : Lit) (hv : mf F kl ≠ none) : ∃ a : Nat, kl = .int .i64 a ∧ a < n := by
 unfold mf at hv
 split at hv
 · next a => cases hF : F a with
   | none => rw [hF] at hv; exact absurd rfl hv
   | some s =>
    have := (h a s hF).1
    obtain ⟨m, rfl⟩ := Int.eq_ofNat_of_zero_le this.1
    exact ⟨m, rfl, by omega⟩
 · exact absurd rfl hv
structure Dk (w : World) (base g bs bf : Nat) (v : Value) (p : DP) : Prop where
 blk : Blk w g 138 #[.int .i64 p.size, .map (some bs), .map (some bf), v, .int .i64 p.fuse, .bool p.down]
 ms : MapAt w Tryz.prog 3 bs p.size (mf p.sure)
 mw : MapAt w Tryz.prog 3 bf p.size (mf p.fresh)
 own : w.ownsRow base 3 1 v p.order.length (i64s p.order)
 ne : bs ≠ bf
 lo : base ≤ g ∧ base ≤ bs ∧ base ≤ bf
 ok : p.Ok
def DkOurs (g bs bf : Nat) (v : Value) (k : Nat) : Prop := k = g ∨ k = bs ∨ k = bf ∨ v.ownBlock = some k
section
variable {w w' : World} {base g bs bf : Nat} {v : Value} {p : DP}
theorem Dk.fr {S : Nat → Prop} (h : Dk w base g bs bf v p) (hf : Fr S w w') (hs : ∀ k, S k → ¬ DkOurs g bs bf v k) : Dk w' base g bs bf v p :=
 ⟨h.blk.fr hf (fun k => hs _ k (.inl rfl)), h.ms.fr hf (fun k => hs _ k (.inr (.inl rfl))), h.mw.fr hf (fun k => hs _ k (.inr (.inr (.inl rfl)))), own_fr h.own hf (fun _ hk k => hs _ k (.inr (.inr (.inr hk)))), h.ne, h.lo, h.ok⟩
theorem Dk.new (h : Dk w base g bs bf v p) (hN : New w w') : Dk w' base g bs bf v p := h.fr (hN.toFr NoB) (fun _ x => x.elim)
theorem Dk.ours (h : Dk w base g bs bf v p) : ∀ k, DkOurs g bs bf v k → base ≤ k ∧ k < w.heap.size := by
 rintro k (rfl | rfl | rfl | hk)
 · exact ⟨h.lo.1, h.blk.lt⟩
 · exact ⟨h.lo.2.1, h.ms.lt⟩
 · exact ⟨h.lo.2.2, h.mw.lt⟩
 · exact own_lt h.own k hk
theorem blk_map {t : TypeId} {cs : Array Value} {P : Program} {k : TypeId} {n b : Nat} {f : Lit → Option Value} {g : Nat} (h : Blk w g t cs) (hm : MapAt w P k b n f) : g ≠ b := by
 rintro rfl
 obtain ⟨D, ⟨es, clock, hb, _⟩, _⟩ := hm
 unfold Blk at h
 rw [h] at hb
 cases hb
theorem own_map {e s m k : Nat} {xs : List Value} {P : Program} {kt : TypeId} {n b : Nat} {f : Lit → Option Value} (h : w.ownsRow base e s v m xs) (hm : MapAt w P kt b n f) (hk : v.ownBlock = some k) : k ≠ b := by
 rcases h.2 with ⟨rfl, _⟩ | ⟨g', cap, cur, rfl, _, hh, _⟩
 · cases hk
 · have : g' = k := by simpa [Value.ownBlock] using hk
   subst this
   exact blk_map (t := e) hh hm
theorem Dk.gs (h : Dk w base g bs bf v p) : g ≠ bs := blk_map h.blk h.ms
theorem Dk.gf (h : Dk w base g bs bf v p) : g ≠ bf := blk_map h.blk h.mw
theorem Dk.vg (h : Dk w base g bs bf v p) : v.ownBlock ≠ some g := own_ne h.own h.blk (by decide)
theorem Dk.vs (h : Dk w base g bs bf v p) : ∀ k, v.ownBlock = some k → k ≠ bs := fun _ hk => own_map h.own h.ms hk
theorem Dk.vf (h : Dk w base g bs bf v p) : ∀ k, v.ownBlock = some k → k ≠ bf := fun _ hk => own_map h.own h.mw hk
end
end Go.Proofs.YtmibndkofoldkaaGreatDoor
namespace Go.Proofs.YtmibndkofoldkaaGreatDoor
set_option linter.unusedVariables false
set_option linter.unusedSimpArgs false
set_option linter.constructorNameAsVariable false
open Go.RowKit Go.Maps
theorem may_in {w : World} {base g bs bf : Nat} {v : Value} {p : DP} (h : Dk w base g bs bf v p) {a : Int} (h0 : 0 ≤ a) (h1 : a < p.size) : Calls Tryz.prog 195 #[.pointer (some ⟨g, 0, none⟩), .int .i64 a] w fun e w' => e = .returned .nilIface ∧ w = w' := by
 have c0 := h.blk.cell 0
 have hs := h.ok.s2
 clear h
 have t0 : decide (a < 0) = false := decide_eq_false (by omega)
 go_enter Tryz.func195, Tryz.ntmps195
 go_wp2_with fail
 go_ret
 exact ⟨rfl, rfl⟩
theorem may_out {w : World} {base g bs bf : Nat} {v : Value} {p : DP} (h : Dk w base g bs bf v p) {a : Int} (h1 : ¬ (0 ≤ a ∧ a < p.size)) : Calls Tryz.prog 195 #[.pointer (some ⟨g, 0, none⟩), .int .i64 a] w fun e w' => e = .returned (.iface 55 (.int .i64 1)) ∧ w = w' := by
 have c0 := h.blk.cell 0
 have hs := h.ok.s2
 clear h
 by_cases h0 : a < 0
 · have t0 : decide (a < 0) = true := decide_eq_true h0
   go_enter Tryz.func195, Tryz.ntmps195
   go_wp2_with fail
   go_ret
   exact ⟨rfl, rfl⟩
 · have h2 : (p.size : Int) ≤ a := by omega
   have t0 : decide (a < 0) = false := decide_eq_false h0
   clear h1
   go_enter Tryz.func195, Tryz.ntmps195
   go_wp2_with fail
   go_ret
   exact ⟨rfl, rfl⟩
theorem new_ok (n : Nat) (w : World) (base : Nat) (hb : base ≤ w.heap.size) (h1 : 1 ≤ n) (h2 : n ≤ 16384) : Calls Tryz.prog 27 #[.int .i64 n] w fun e w' => e = .returned (.tuple #[.pointer (some ⟨w.heap.size + 2, 0, none⟩), .nilIface]) ∧
    Dk w' base (w.heap.size + 2) w.heap.size (w.heap.size + 1) (.slice none 0 0) (DP.new n) ∧ New w w' := by
 have hmk := @run_makeMap Tryz.prog
 go_enter Tryz.func27, Tryz.ntmps27
 go_wp2_with fail
 go_ret2
 refine ⟨rfl, ⟨?_, ?_, ?_, World.ownsRow_nil _ _ _ _, by omega, by omega, DP.new_ok h1 h2⟩, ((New.refl w).al _ |>.al _).al _⟩
 · exact Blk.new' _ _ _ (by simp)
 · rw [show mf (DP.new n).sure = fun _ => none from mf_none]
   exact (((MapAt.made w Tryz.prog 3).alloc _).alloc _).mono (by omega)
 · rw [show mf (DP.new n).fresh = fun _ => none from mf_none]
   have := ((MapAt.made (w.alloc (.map #[] 0)) Tryz.prog 3).alloc (.cells #[.int .i64 n, .map (some w.heap.size), .map (some (w.heap.size + 1)), .slice none 0 0, .int .i64 (-1), .bool false] 138)).mono (show 0 ≤ n by omega)
   simpa [DP.new] using this
theorem len_in {w : World} {base g bs bf : Nat} {v : Value} {p : DP} (h : Dk w base g bs bf v p) : Calls Tryz.prog 29 #[.pointer (some ⟨g, 0, none⟩)] w fun e w' => e = .returned (.int .i64 p.size) ∧ w = w' := by
 have c0 := h.blk.cell 0
 clear h
 go_enter Tryz.func29, Tryz.ntmps29
 go_wp2_with fail
 go_ret
 exact ⟨rfl, rfl⟩
end Go.Proofs.YtmibndkofoldkaaGreatDoor
namespace Go.Proofs.YtmibndkofoldkaaGreatDoor
set_option linter.unusedVariables false
set_option linter.unusedSimpArgs false
set_option linter.constructorNameAsVariable false
open Go.RowKit Go.Maps
theorem secInfo : (Tryz.prog.info? 154).map (fun i => (i.zero, i.size)) = some (some (.agg (secA sec0)), 64) := by kernel_rfl
theorem zSec (w : World) : (zeroValue 154).run Tryz.prog w = .ok (.agg (secA sec0)) w := (zero_of_info secInfo).1 w
theorem keyI {a : Int} (h0 : 0 ≤ a) (h1 : a < 16384) : keyOf Tryz.prog 3 (.int .i64 a) = some (.int .i64 a) :=
 keyOf_int_mk Tryz.underlying3 (by simp [Lit.wf, IntKind.min, IntKind.max, IntKind.signed, IntKind.bits]; omega)
theorem get_fresh {p : DP} {a : Int} {s : List Int} (h : p.fresh a = some s) : p.get a = s := by simp [DP.get, h]
theorem get_sure {p : DP} {a : Int} (h : p.fresh a = none) : p.get a = (p.sure a).getD sec0 := by simp [DP.get, h]
set_option maxHeartbeats 2000000 in
set_option maxRecDepth 100000 in
theorem read_in {w : World} {base g bs bf : Nat} {v : Value} {p : DP} (h : Dk w base g bs bf v p) {a : Int} (h0 : 0 ≤ a) (h1 : a < p.size) : Calls Tryz.prog 162 #[.pointer (some ⟨g, 0, none⟩), .int .i64 a] w fun e w' => e = .returned (.tuple #[.agg (secA (p.get a)), .nilIface]) ∧ New w w' := by
 have H := Lib.hid h
 have hk := keyI h0 (by have := h.ok.s2; omega)
 have HK := Lib.hid hk
 clear h hk
 go_enter Tryz.func162, Tryz.ntmps162
 go_wp2_with fail
 obtain ⟨w0, hw0⟩ : ∃ w0 : World, w0 = w.alloc (.cells #[.int .u8 0, .int .u8 0, .int .u8 0, .int .u8 0, .int .u8 0, .int .u8 0, .int .u8 0, .int .u8 0, .int .u8 0, .int .u8 0, .int .u8 0, .int .u8 0, .int .u8 0, .int .u8 0, .int .u8 0, .int .u8 0, .int .u8 0, .int .u8 0, .int .u8 0, .int .u8 0, .int .u8 0, .int .u8 0, .int .u8 0, .int .u8 0, .int .u8 0, .int .u8 0, .int .u8 0, .int .u8 0, .int .u8 0, .int .u8 0, .int .u8 0, .int .u8 0, .int .u8 0, .int .u8 0, .int .u8 0, .int .u8 0, .int .u8 0, .int .u8 0, .int .u8 0, .int .u8 0, .int .u8 0, .int .u8 0, .int .u8 0, .int .u8 0, .int .u8 0, .int .u8 0, .int .u8 0, .int .u8 0, .int .u8 0, .int .u8 0, .int .u8 0, .int .u8 0, .int .u8 0, .int .u8 0, .int .u8 0, .int .u8 0, .int .u8 0, .int .u8 0, .int .u8 0, .int .u8 0, .int .u8 0, .int .u8 0, .int .u8 0, .int .u8 0] 154) := ⟨_, rfl⟩
 have HN0 : Hid (New w w0) := Lib.hid (by rw [hw0]; exact New.al (New.refl _) _)
 have HB0 : Hid (Blk w0 w.heap.size 154 (secA sec0)) := Lib.hid (by rw [hw0]; exact Blk.new _ _ _)
 have HD0 := Lib.hid (H.out.new HN0.out)
 rw [← hw0]
 clear hw0
 refine (may_in HD0.out h0 h1).mono ?_
 rintro e w1 ⟨rfl, rfl⟩
 have c2 := HD0.out.blk.cell 2
 cases hf : p.fresh a with
 | some s =>
  have HG := Lib.hid (get_fresh hf)
  have HF := Lib.hid hf
  have HS := Lib.hid (HD0.out.ok.freshR a s hf).2
  clear hf
  go_wp2_with (first
   | ((with_reducible refine atOp ⟨some 22, _, _, _, _, _⟩ ?_); refine wpList_mlook2 (o := ⟨some 22, _, _, _, _, _⟩) HD0.out.mw kI Tryz.underlying136 (zSec _) rfl (.tmp 20) (.tmp 21) rfl rfl _ _ rfl HK.out (.agg (secA s)) true (by simp [mf, HF.out]) (by simp [mf, HF.out]) ?_)
   | ((with_reducible refine atOp ⟨some 7, .alloc _, _, _, _, _⟩ ?_); refine wpList_newvar (s := s) rfl rfl rfl _ _ rfl secInfo rfl rfl rfl HS.out.1 ?_)
   | ((with_reducible refine atOp ⟨some 26, _, _, _, _, _⟩ ?_); refine wpList_load_blk (s := s) rfl _ rfl Tryz.underlying154 rfl rfl (Blk.new _ _ _) HS.out.1 ?_)
   | ((with_reducible refine atOp ⟨none, .store 154 (.tmp 4) _, _, _, _, _⟩ ?_); refine wpList_store_blk (s := s) (s0 := sec0) rfl (.tmp 4) (.tmp 26) rfl rfl rfl rfl (HB0.out.alloc _) rfl HS.out.1 ?_; intro w2 hb2 hf2; have HB2 := Lib.hid hb2; have HF2 := Lib.hid hf2; clear hb2 hf2))
  refine bodyPost_ret (results_sec2 rfl _ _ rfl HB2.out Tryz.underlying154 rfl HS.out.1) rfl ?_
  exact ⟨by rw [HG.out]; rfl, (HN0.out.al _).fr HF2.out (fun k hk => by have := HN0.out.size; omega)⟩
 | none =>
  have HG := Lib.hid (get_sure hf)
  have HF := Lib.hid hf
  obtain ⟨s, hs⟩ : ∃ s, s = (p.sure a).getD sec0 := ⟨_, rfl⟩
  have hs2 : SecOk s := by
   have := HD0.out.ok.get a
   rwa [HG.out, ← hs] at this
  have hv : (mf p.sure (.int .i64 a)).getD (.agg (secA sec0)) = .agg (secA s) := by
   rw [hs]
   cases hq : p.sure a <;> simp [mf, hq]
  rw [← hs] at HG
  have HS := Lib.hid hs2
  have HV := Lib.hid hv
  clear hf hs hs2 hv
  have c1 := fun o : Obj => (New.al (New.refl w0) o).cell_ (HD0.out.blk.cell 1)
  go_wp2_with (first
   | ((with_reducible refine atOp ⟨some 22, _, _, _, _, _⟩ ?_); refine wpList_mlook2 (o := ⟨some 22, _, _, _, _, _⟩) HD0.out.mw kI Tryz.underlying136 (zSec _) rfl (.tmp 20) (.tmp 21) rfl rfl _ _ rfl HK.out (.agg (secA sec0)) false (by simp [mf, HF.out]) (by simp [mf, HF.out]) ?_)
   | ((with_reducible refine atOp ⟨some 7, .alloc _, _, _, _, _⟩ ?_); refine wpList_newvar (s := sec0) rfl rfl rfl _ _ rfl secInfo rfl rfl rfl sec0_ok.1 ?_)
   | ((with_reducible refine atOp ⟨some 32, _, _, _, _, _⟩ ?_); refine wpList_mlook1 (o := ⟨some 32, _, _, _, _, _⟩) (HD0.out.ms.alloc _) kI Tryz.underlying136 (zSec _) rfl (.tmp 30) (.tmp 31) rfl rfl _ _ rfl HK.out (.agg (secA s)) HV.out ?_)
   | ((with_reducible refine atOp ⟨none, .store 154 (.tmp 4) _, _, _, _, _⟩ ?_); refine wpList_store_blk (s := s) (s0 := sec0) rfl (.tmp 4) (.tmp 32) rfl rfl rfl rfl (HB0.out.alloc _) rfl HS.out.1 ?_; intro w2 hb2 hf2; have HB2 := Lib.hid hb2; have HF2 := Lib.hid hf2; clear hb2 hf2))
  refine bodyPost_ret (results_sec2 rfl _ _ rfl HB2.out Tryz.underlying154 rfl HS.out.1) rfl ?_
  exact ⟨by rw [HG.out]; rfl, (HN0.out.al _).fr HF2.out (fun k hk => by have := HN0.out.size; omega)⟩
set_option maxHeartbeats 2000000 in
set_option maxRecDepth 100000 in
theorem read_bad {pt : Option Addr} {a n : Int} {w : World} (hmay : ∀ w', New w w' → Calls Tryz.prog 195 #[.pointer pt, .int .i64 a] w' fun e w'' => e = .returned (.iface 55 (.int .i64 n)) ∧ w' = w'') :
    Calls Tryz.prog 162 #[.pointer pt, .int .i64 a] w fun e w' => e = .returned (.tuple #[.agg (secA sec0), .iface 55 (.int .i64 n)]) ∧ New w w' := by
 have HM := Lib.hid hmay
 have hbuild : ∀ w, (Instr.build 154 #[]).run Tryz.prog w = .ok (.agg (secA sec0)) w := fun _ => by kernel_rfl
 clear hmay
 go_enter Tryz.func162, Tryz.ntmps162
 go_wp2_with fail
 obtain ⟨w0, hw0⟩ : ∃ w0 : World, w0 = w.alloc (.cells #[.int .u8 0, .int .u8 0, .int .u8 0, .int .u8 0, .int .u8 0, .int .u8 0, .int .u8 0, .int .u8 0, .int .u8 0, .int .u8 0, .int .u8 0, .int .u8 0, .int .u8 0, .int .u8 0, .int .u8 0, .int .u8 0, .int .u8 0, .int .u8 0, .int .u8 0, .int .u8 0, .int .u8 0, .int .u8 0, .int .u8 0, .int .u8 0, .int .u8 0, .int .u8 0, .int .u8 0, .int .u8 0, .int .u8 0, .int .u8 0, .int .u8 0, .int .u8 0, .int .u8 0, .int .u8 0, .int .u8 0, .int .u8 0, .int .u8 0, .int .u8 0, .int .u8 0, .int .u8 0, .int .u8 0, .int .u8 0, .int .u8 0, .int .u8 0, .int .u8 0, .int .u8 0, .int .u8 0, .int .u8 0, .int .u8 0, .int .u8 0, .int .u8 0, .int .u8 0, .int .u8 0, .int .u8 0, .int .u8 0, .int .u8 0, .int .u8 0, .int .u8 0, .int .u8 0, .int .u8 0, .int .u8 0, .int .u8 0, .int .u8 0, .int .u8 0] 154) := ⟨_, rfl⟩
 have HN0 : Hid (New w w0) := Lib.hid (by rw [hw0]; exact New.al (New.refl _) _)
 have HB0 : Hid (Blk w0 w.heap.size 154 (secA sec0)) := Lib.hid (by rw [hw0]; exact Blk.new _ _ _)
 rw [← hw0]
 clear hw0
 refine (HM.out w0 HN0.out).mono ?_
 rintro e w1 ⟨rfl, rfl⟩
 go_wp2_with (first
     | ((with_reducible refine atOp ⟨none, .store 154 (.tmp 4) _, _, _, _, _⟩ ?_); refine wpList_store_blk (s := sec0) (s0 := sec0) rfl (.tmp 4) (.tmp 14) rfl rfl rfl rfl HB0.out rfl sec0_ok.1 ?_; intro w2 hb2 hf2; have HB2 := Lib.hid hb2; have HF2 := Lib.hid hf2; clear hb2 hf2))
 refine bodyPost_ret (results_sec2 rfl _ _ rfl HB2.out Tryz.underlying154 rfl sec0_ok.1) rfl ?_
 exact ⟨rfl, HN0.out.fr HF2.out (fun k hk => by omega)⟩
theorem read_out {w : World} {base g bs bf : Nat} {v : Value} {p : DP} (h : Dk w base g bs bf v p) {a : Int} (h1 : ¬ (0 ≤ a ∧ a < p.size)) : Calls Tryz.prog 162 #[.pointer (some ⟨g, 0, none⟩), .int .i64 a] w fun e w' => e = .returned (.tuple #[.agg (secA sec0), .iface 55 (.int .i64 1)]) ∧ New w w' := read_bad fun w' hN => may_out (h.new hN) h1
end Go.Proofs.YtmibndkofoldkaaGreatDoor
namespace Go.Proofs.YtmibndkofoldkaaGreatDoor
set_option linter.unusedVariables false
set_option linter.unusedSimpArgs false
set_option linter.constructorNameAsVariable false
open Go.RowKit Go.Maps
theorem write_bad {pt : Option Addr} {a n : Int} {s : List Int} {w : World} (hmay : ∀ w', New w w' → Calls Tryz.prog 195 #[.pointer pt, .int .i64 a] w' fun e w'' => e = .returned (.iface 55 (.int .i64 n)) ∧ w' = w'') :
    Calls Tryz.prog 166 #[.pointer pt, .int .i64 a, .agg (secA s)] w fun e w' => e = .returned (.iface 55 (.int .i64 n)) ∧ New w w' := by
 have HM := Lib.hid hmay
 clear hmay
 go_enter Tryz.func166, Tryz.ntmps166
 go_wp2_with fail
 obtain ⟨w0, hw0⟩ : ∃ w0 : World, w0 = w.alloc (.cells (secA s) 154) := ⟨_, rfl⟩
 have HN0 : Hid (New w w0) := Lib.hid (by rw [hw0]; exact New.al (New.refl _) _)
 rw [← hw0]
 clear hw0
 refine (HM.out w0 HN0.out).mono ?_
 rintro e w1 ⟨rfl, rfl⟩
 go_wp2_with fail
 go_ret
 exact ⟨rfl, HN0.out⟩
theorem write_out {w : World} {base g bs bf : Nat} {v : Value} {p : DP} (h : Dk w base g bs bf v p) {a : Int} (s : List Int) (h1 : ¬ (0 ≤ a ∧ a < p.size)) : Calls Tryz.prog 166 #[.pointer (some ⟨g, 0, none⟩), .int .i64 a, .agg (secA s)] w fun e w' => e = .returned (.iface 55 (.int .i64 1)) ∧ New w w' := write_bad fun w' hN => may_out (h.new hN) h1
def DP.fall (p : DP) : DP := { p with down := true }
theorem Dk.setDown {w : World} {base g bs bf : Nat} {v : Value} {p : DP} (h : Dk w base g bs bf v p) (b : Bool) : Dk (w.setCell ⟨g, 5, none⟩ (.bool b)) base g bs bf v { p with down := b } := by
 have hf : Fr (fun k => k = g) w (w.setCell ⟨g, 5, none⟩ (.bool b)) := (Fr.refl _ w).setCell (S := fun k => k = g) (p := ⟨g, 5, none⟩) (fun _ => rfl) _
 refine ⟨?_, h.ms.fr hf (fun e => h.gs e.symm), h.mw.fr hf (fun e => h.gf e.symm), own_fr h.own hf (fun k hk e => h.vg (by rw [hk, e])), h.ne, h.lo, ⟨h.ok.s1, h.ok.s2, h.ok.sureR, h.ok.freshR, h.ok.nod, h.ok.ord, h.ok.fz⟩⟩
 have := h.blk.set 5 (.bool b)
 simpa using this
theorem Dk.setFuse {w : World} {base g bs bf : Nat} {v : Value} {p : DP} (h : Dk w base g bs bf v p) (n : Int) (hn : -1 ≤ n ∧ n ≤ 9223372036854775807) : Dk (w.setCell ⟨g, 4, none⟩ (.int .i64 n)) base g bs bf v { p with fuse := n } := by
 have hf : Fr (fun k => k = g) w (w.setCell ⟨g, 4, none⟩ (.int .i64 n)) := (Fr.refl _ w).setCell (S := fun k => k = g) (p := ⟨g, 4, none⟩) (fun _ => rfl) _
 refine ⟨?_, h.ms.fr hf (fun e => h.gs e.symm), h.mw.fr hf (fun e => h.gf e.symm), own_fr h.own hf (fun k hk e => h.vg (by rw [hk, e])), h.ne, h.lo, ⟨h.ok.s1, h.ok.s2, h.ok.sureR, h.ok.freshR, h.ok.nod, h.ok.ord, hn⟩⟩
 have := h.blk.set 4 (.int .i64 n)
 simpa using this
theorem write_down {w : World} {base g bs bf : Nat} {v : Value} {p : DP} (h : Dk w base g bs bf v p) {a : Int} (s : List Int) (h0 : 0 ≤ a) (h1 : a < p.size) (hd : p.fuse = 0 ∨ p.down = true) :
    Calls Tryz.prog 166 #[.pointer (some ⟨g, 0, none⟩), .int .i64 a, .agg (secA s)] w fun e w' => e = .returned (.iface 55 (.int .i64 14)) ∧ Dk w' base g bs bf v p.fall ∧ Fr (fun k => k = g) w w' := by
 have H := Lib.hid h
 clear h
 by_cases hz : p.fuse = 0
 · clear hd
   have hz' : (p.fuse == 0) = true := by simp [hz]
   clear hz
   go_enter Tryz.func166, Tryz.ntmps166
   go_wp2_with fail
   obtain ⟨w0, hw0⟩ : ∃ w0 : World, w0 = w.alloc (.cells (secA s) 154) := ⟨_, rfl⟩
   have HN0 : Hid (New w w0) := Lib.hid (by rw [hw0]; exact New.al (New.refl _) _)
   have HD0 := Lib.hid (H.out.new HN0.out)
   rw [← hw0]
   clear hw0
   refine (may_in HD0.out h0 h1).mono ?_
   rintro e w1 ⟨rfl, rfl⟩
   have c4 := HD0.out.blk.cell 4
   have c5 := HD0.out.blk.cell 5
   have f5 := HD0.out.blk.frozen 5
   go_wp2_with fail
   go_ret
   exact ⟨rfl, HD0.out.setDown true, (HN0.out.toFr _).setCell (S := fun k => k = g) (p := ⟨g, 5, none⟩) (fun _ => rfl) _⟩
 · have hz' : (p.fuse == 0) = false := by simp [hz]
   have hd' : p.down = true := hd.resolve_left hz
   clear hd hz
   have HP : Hid (p.fall = p) := Lib.hid (by cases p; simp only [DP.fall]; simp only at hd'; rw [hd'])
   have HDD := Lib.hid hd'
   clear hd'
   go_enter Tryz.func166, Tryz.ntmps166
   go_wp2_with fail
   obtain ⟨w0, hw0⟩ : ∃ w0 : World, w0 = w.alloc (.cells (secA s) 154) := ⟨_, rfl⟩
   have HN0 : Hid (New w w0) := Lib.hid (by rw [hw0]; exact New.al (New.refl _) _)
   have HD0 := Lib.hid (H.out.new HN0.out)
   rw [← hw0]
   clear hw0
   refine (may_in HD0.out h0 h1).mono ?_
   rintro e w1 ⟨rfl, rfl⟩
   have c4 := HD0.out.blk.cell 4
   have c5 : w0.cell? ⟨g, 5, none⟩ = some (.bool true) := by rw [HD0.out.blk.cell 5]; simp [HDD.out]
   go_wp2_with fail
   go_ret
   exact ⟨rfl, by rw [HP.out]; exact HD0.out, HN0.out.toFr _⟩
theorem put_end {w1 w3 w4 w5 : World} {base g bs bf n : Nat} {v v3 : Value} {p : DP} (hD : Dk w1 base g bs bf v p) {a : Int} {s : List Int} (ha : 0 ≤ a ∧ a < p.size) (hs : SecOk s)
    (h2 : Fr (fun k => v.ownBlock = some k) w1 w3) (h3 : w3.ownsRow base 3 1 v3 (p.put a s).order.length (i64s (p.put a s).order))
    (hv : ∀ k, v3.ownBlock = some k → v.ownBlock = some k ∨ w1.heap.size ≤ k) (h4 : Fr (fun k => k = g) w3 w4) (hb4 : Blk w4 g 138 #[.int .i64 p.size, .map (some bs), .map (some bf), v3, .int .i64 p.fuse, .bool p.down])
    (hM : MapAt w5 Tryz.prog 3 bf n (putF (mf p.fresh) (.int .i64 a) (some (.agg (secA s))))) (h5 : Fr (fun k => k = bf) w4 w5) :
    Dk w5 base g bs bf v3 (p.put a s) ∧ Fr (DkOurs g bs bf v) w1 w5 := by
 have hok := hD.ok.put ha hs
 have hvg : ∀ k, v3.ownBlock = some k → k ≠ g := fun k hk e => by
  rcases hv k hk with h | h
  · exact hD.vg (by rw [h, e])
  · have := hD.blk.lt; omega
 have hvf : ∀ k, v3.ownBlock = some k → k ≠ bf := fun k hk e => by
  rcases hv k hk with h | h
  · exact hD.vf k h e
  · have := hD.mw.lt; omega
 refine ⟨⟨hb4.fr h5 hD.gf, ?_, ?_, own_fr (own_fr h3 h4 hvg) h5 hvf, hD.ne, hD.lo, hok⟩, ?_⟩
 · exact ((hD.ms.fr h2 (fun e => hD.vs _ e rfl)).fr h4 (fun e => hD.gs e.symm)).fr h5 hD.ne
 · have : putF (mf p.fresh) (.int .i64 a) (some (.agg (secA s))) = mf (p.put a s).fresh := mf_upd p.fresh a (some s)
   rw [this] at hM
   exact hM.tight kI _ fun kl hk => mf_keys hok.freshR kl hk
 · exact ((h2.mono fun b _ h => .inr (.inr (.inr h))).trans (h4.mono fun b _ h => .inl h)).trans (h5.mono fun b _ h => .inr (.inr (.inl h)))
set_option maxHeartbeats 4000000 in
set_option maxRecDepth 100000 in
theorem write_in {w : World} {base g bs bf : Nat} {v : Value} {p : DP} (h : Dk w base g bs bf v p) {a : Int} {s : List Int} (h0 : 0 ≤ a) (h1 : a < p.size) (hs : SecOk s) (hd : p.down = false) (hf : p.fuse ≠ 0) :
    Calls Tryz.prog 166 #[.pointer (some ⟨g, 0, none⟩), .int .i64 a, .agg (secA s)] w fun e w' => e = .returned .nilIface ∧ ∃ v', Dk w' base g bs bf v' (p.write a s) ∧ Fr (DkOurs g bs bf v) w w' ∧ ∀ k, v'.ownBlock = some k → v.ownBlock = some k ∨ w.heap.size ≤ k := by
 have H := Lib.hid h
 have HK := Lib.hid (keyI h0 (by have := h.ok.s2; omega))
 have HS := Lib.hid hs
 have hz' : (p.fuse == 0) = false := by simp [hf]
 have hfz := h.ok.fz
 have HDD := Lib.hid hd
 clear h hs hd
 go_enter Tryz.func166, Tryz.ntmps166
 go_wp2_with fail
 obtain ⟨w0, hw0⟩ : ∃ w0 : World, w0 = w.alloc (.cells (secA s) 154) := ⟨_, rfl⟩
 have HN0 : Hid (New w w0) := Lib.hid (by rw [hw0]; exact New.al (New.refl _) _)
 have HB0 : Hid (Blk w0 w.heap.size 154 (secA s)) := Lib.hid (by rw [hw0]; exact Blk.new _ _ _)
 have HD0 := Lib.hid (H.out.new HN0.out)
 rw [← hw0]
 clear hw0
 refine (may_in HD0.out h0 h1).mono ?_
 rintro e w1 ⟨rfl, rfl⟩
 obtain ⟨w1, hw1, HD1, HF1⟩ : ∃ w1, w1 = (if 0 < p.fuse then w0.setCell ⟨g, 4, none⟩ (.int .i64 (p.fuse - 1)) else w0) ∧ Hid (Dk w1 base g bs bf v p.burn) ∧ Hid (Fr (fun k => k = g) w0 w1) := by
  refine ⟨_, rfl, ?_, ?_⟩
  · by_cases hp : 0 < p.fuse
    · rw [if_pos hp]
      have := HD0.out.setFuse (p.fuse - 1) (by omega)
      have e : p.burn = { p with fuse := p.fuse - 1 } := by simp [DP.burn, if_pos hp]
      exact Lib.hid (by rw [e]; exact this)
    · rw [if_neg hp]
      have e : p.burn = p := by simp [DP.burn, if_neg hp]
      exact Lib.hid (by rw [e]; exact HD0.out)
  · by_cases hp : 0 < p.fuse
    · rw [if_pos hp]; exact Lib.hid ((Fr.refl _ w0).setCell (S := fun k => k = g) (p := ⟨g, 4, none⟩) (fun _ => rfl) _)
    · rw [if_neg hp]; exact Lib.hid (Fr.refl _ _)
 have c4 := HD0.out.blk.cell 4
 have f4 := HD0.out.blk.frozen 4
 have c5 : w0.cell? ⟨g, 5, none⟩ = some (.bool false) := by rw [HD0.out.blk.cell 5]; simp [HDD.out]
 have hgne : ¬ w.heap.size = g := fun e => by have := H.out.blk.lt; omega
 have HB1 := Lib.hid (HB0.out.fr HF1.out hgne)
 have HW1 := Lib.hid hw1
 clear hw1
 go_upto_region 10 with (fail)
 all_goals
  first
   | rw [show w0.setCell ⟨g, 4, none⟩ (.int .i64 (p.fuse - 1)) = w1 from by rw [HW1.out, if_pos (by assumption)]]
   | rw [show w0 = w1 from by rw [HW1.out, if_neg (by omega)]]
  clear c4 f4 c5 HB0 hz' hfz hf
  have HF01 : Hid (Fr (DkOurs g bs bf v) w w1) := Lib.hid ((HN0.out.toFr _).trans (HF1.out.mono fun b _ hb => .inl hb))
  have d2 := HD1.out.blk.cell 2
  have hbw : base ≤ w1.heap.size := by have := HD1.out.lo.1; have := HD1.out.blk.lt; omega
  obtain ⟨w2, hw2⟩ : ∃ w2 : World, w2 = w1.alloc (.cells (secA ((p.fresh a).getD sec0)) 154) := ⟨_, rfl⟩
  have HN2 : Hid (New w1 w2) := Lib.hid (by rw [hw2]; exact New.al (New.refl _) _)
  have HB2 := Lib.hid (New.blk HN2.out HB1.out)
  have HD2 := Lib.hid (HD1.out.new HN2.out)
  have e2 := HD2.out.blk.cell 2
  have e3 := HD2.out.blk.cell 3
  have e3f := HD2.out.blk.frozen 3
  have HW2 := Lib.hid hw2
  clear hw2
  cases hfr : p.fresh a with
  | some s0 =>
   as_aux_lemma =>
   have HS0 := Lib.hid (HD1.out.ok.freshR a s0 hfr).2
   have HFR := Lib.hid hfr
   clear hfr
   have HW3 : Hid (w1.alloc (.cells (secA s0) 154) = w2) := Lib.hid (by rw [HW2.out, HFR.out]; rfl)
   have HM2 : Hid (MapAt w2.drew Tryz.prog 3 bf p.size (mf p.fresh)) := Lib.hid (HD2.out.mw.fr (S := NoB) ((Fr.refl _ _).drew) (fun x => x))
   obtain ⟨w5, hrun, hM5, hF5⟩ := HM2.out.store kI Tryz.underlying136 (by have := HD2.out.ok.s2; have : p.burn.size = p.size := rfl; unfold maxLen; omega) HK.out (.agg (u8s s).toArray)
   have HM5 : Hid (MapAt w5 Tryz.prog 3 bf (p.size + 1) (putF (mf p.fresh) (.int .i64 a) (some (.agg (secA s))))) := Lib.hid hM5
   have HF5 := Lib.hid hF5
   have hS5 : w5.rangeAt w.heap.size 0 (u8s s) ∧ w5.cell? ⟨g, 2, none⟩ = some (.map (some bf)) := ⟨((HB2.out.drew).fr hF5 (fun e => by have := H.out.mw.lt; omega)).range, (HD2.out.blk.drew.fr hF5 HD2.out.gf).cell 2⟩
   have hS2 : w2.drew.rangeAt w.heap.size 0 (u8s s) ∧ w2.drew.cell? ⟨g, 2, none⟩ = some (.map (some bf)) := ⟨HB2.out.drew.range, e2⟩
   have hu := Tryz.underlying154
   have hi : (Tryz.prog.info? 154).map (·.size) = some (u8s s).length := by rw [u8s_len, HS.out.1]; rfl
   clear hM5 hF5
   go_wp2_with (first
    | ((with_reducible refine atOp ⟨some 47, _, _, _, _, _⟩ ?_); refine wpList_mlook2 (o := ⟨some 47, _, _, _, _, _⟩) HD1.out.mw kI Tryz.underlying136 (zSec _) rfl (.tmp 45) (.tmp 46) rfl rfl _ _ rfl HK.out (.agg (secA s0)) true (by simp [DP.burn, mf, HFR.out]) (by simp [DP.burn, mf, HFR.out]) ?_)
    | ((with_reducible refine atOp ⟨some 8, .alloc _, _, _, _, _⟩ ?_); refine wpList_newvar (s := s0) rfl rfl rfl _ _ rfl secInfo rfl rfl rfl HS0.out.1 ?_; rw [HW3.out]))
   go_region_held3 (fun w' => w'.rangeAt w.heap.size 0 (u8s s) ∧ w'.cell? ⟨g, 2, none⟩ = some (.map (some bf))) (first | exact hS5 | exact hS2) (fail)
   go_wp2_with fail
   go_ret
   have hO : w2.ownsRow base 3 1 v (p.burn.put a s).order.length (i64s (p.burn.put a s).order) := by
    have e : (p.burn.put a s).order = p.order := by simp [DP.put, DP.burn, HFR.out]
    rw [e]; exact HD2.out.own
   have hE := put_end HD2.out ⟨h0, h1⟩ HS.out (Fr.refl _ _) hO (fun k hk => .inl hk) (Fr.refl _ _) HD2.out.blk HM5.out HF5.out.ofDrew
   exact ⟨rfl, v, hE.1, (HF01.out.trans (HN2.out.toFr _)).trans hE.2, fun k hk => .inl hk⟩
  | none =>
   as_aux_lemma =>
   have HFR := Lib.hid hfr
   clear hfr
   have HW3 : Hid (w1.alloc (.cells (secA sec0) 154) = w2) := Lib.hid (by rw [HW2.out, HFR.out]; rfl)
   have hO2 : w2.ownsRow base 3 1 v p.order.length (i64s p.order) := HD2.out.own
   obtain ⟨A, c, rfl, hnc, hcm, -, -⟩ := own_shape hO2
   have hlen : p.order.length ≤ p.size := HD0.out.ok.len
   have hs2 : p.size ≤ 16384 := HD0.out.ok.s2
   have hml : p.order.length + 1 ≤ maxLen := by unfold maxLen; omega
   have HLEN := Lib.hid hlen
   have HSZ := Lib.hid hs2
   have HML := Lib.hid hml
   have HO2 := Lib.hid hO2
   have hb8 : (p.order.length + 1) * 8 ≤ 140737488355328 := by omega
   have HB8 := Lib.hid hb8
   have hbw2 : base ≤ w2.heap.size := by have := HN2.out.size; omega
   have HVG := Lib.hid HD2.out.vg
   clear hlen hs2 hml hO2 hb8
   go_upto_region 13 with (first
    | ((with_reducible refine atOp ⟨some 47, _, _, _, _, _⟩ ?_); refine wpList_mlook2 (o := ⟨some 47, _, _, _, _, _⟩) HD1.out.mw kI Tryz.underlying136 (zSec _) rfl (.tmp 45) (.tmp 46) rfl rfl _ _ rfl HK.out (.agg (secA sec0)) false (by simp [DP.burn, mf, HFR.out]) (by simp [DP.burn, mf, HFR.out]) ?_)
    | ((with_reducible refine atOp ⟨some 8, .alloc _, _, _, _, _⟩ ?_); refine wpList_newvar (s := sec0) rfl rfl rfl _ _ rfl secInfo rfl rfl rfl sec0_ok.1 ?_; rw [HW3.out])
    | (at_builtin; refine wpList_app elI _ rfl (.tmp 56) (.tmp 58) rfl base (.slice A p.order.length c) p.order.length (i64s p.order) rfl (New.own (New.al (New.refl w2) _) HO2.out) (some ⟨w2.heap.size, 0, none⟩) 1 1 [.int .i64 a] rfl (Rd.ofBlk (p := fun _ => True) (t := 3) (cs := #[.int .i64 a]) (Blk.new' _ _ _ rfl) 1 1 rfl trivial) (by simp [Value.oneCell']) HML.out HB8.out (by simp; omega) ?_; intro A' c' w3 hO3 hF3 hA3; have hB3 := (HD2.out.blk.alloc (.cells #[.int .i64 a] 3)).fr hF3 (fun e => HVG.out e); have m3 := hB3.cell 3; have q3 := hB3.frozen 3; have HB3 := Lib.hid hB3; have HO3 := Lib.hid hO3; have HF3 := Lib.hid hF3; have HA3 := Lib.hid hA3; clear hB3 hO3 hF3 hA3))
   have hF23 : Fr (fun k => (Value.slice A p.order.length c).ownBlock = some k) w2 w3 := ((Fr.refl _ w2).alloc _).trans HF3.out
   obtain ⟨w4, hw4⟩ : ∃ w4 : World, w4 = w3.setCell ⟨g, 3, none⟩ (.slice A' (p.order.length + 1) c') := ⟨_, rfl⟩
   have hF4 : Fr (fun k => k = g) w3 w4 := by rw [hw4]; exact (Fr.refl (fun k => k = g) w3).setCell (p := ⟨g, 3, none⟩) (fun _ => rfl) _
   have hB4 : Blk w4 g 138 #[.int .i64 p.burn.size, .map (some bs), .map (some bf), .slice A' (p.order.length + 1) c', .int .i64 p.burn.fuse, .bool p.burn.down] := by rw [hw4]; exact HB3.out.set 3 _
   have hM4 := (HD2.out.mw.fr hF23 (fun e => HD2.out.vf _ e rfl)).fr (S := fun k => k = g) hF4.drew (fun e => HD2.out.gf e.symm)
   have hb24 : Blk w4 w.heap.size 154 (secA s) := (HB2.out.fr hF23 (fun e => by have := H.out.ours _ (.inr (.inr (.inr e))); omega)).fr hF4 hgne
   rw [← hw4]
   clear hw4 m3 q3
   have HF23 := Lib.hid hF23
   have HF4 := Lib.hid hF4
   have HB4 := Lib.hid hB4
   have HB24 := Lib.hid hb24
   have hmx : p.burn.size < maxLen := by have := HSZ.out; have : p.burn.size = p.size := rfl; unfold maxLen; omega
   obtain ⟨w5, hrun, hM5, hF5⟩ := hM4.store kI Tryz.underlying136 hmx HK.out (.agg (u8s s).toArray)
   have HM5 : Hid (MapAt w5 Tryz.prog 3 bf (p.size + 1) (putF (mf p.fresh) (.int .i64 a) (some (.agg (secA s))))) := Lib.hid hM5
   have HF5 := Lib.hid hF5
   have e2' := HB4.out.cell 2
   have hS5 : w5.rangeAt w.heap.size 0 (u8s s) ∧ w5.cell? ⟨g, 2, none⟩ = some (.map (some bf)) := ⟨((HB24.out.drew).fr hF5 (fun e => by have := H.out.mw.lt; omega)).range, (HB4.out.drew.fr hF5 HD2.out.gf).cell 2⟩
   have hS2 : w4.drew.rangeAt w.heap.size 0 (u8s s) ∧ w4.drew.cell? ⟨g, 2, none⟩ = some (.map (some bf)) := ⟨HB24.out.drew.range, e2'⟩
   have hu := Tryz.underlying154
   have hi : (Tryz.prog.info? 154).map (·.size) = some (u8s s).length := by rw [u8s_len, HS.out.1]; rfl
   clear hM5 hF5 hM4 hF23 hF4 hB4 hb24 e3 e3f d2 e2
   go_region_held3 (fun w' => w'.rangeAt w.heap.size 0 (u8s s) ∧ w'.cell? ⟨g, 2, none⟩ = some (.map (some bf))) (first | exact hS5 | exact hS2) (fail)
   go_wp2_with fail
   go_ret
   have he : (p.burn.put a s).order = p.order ++ [a] := by simp [DP.put, DP.burn, HFR.out]
   have hv3 : ∀ k, (Value.slice A' (p.order.length + 1) c').ownBlock = some k → (Value.slice A p.order.length c).ownBlock = some k ∨ w2.heap.size ≤ k := fun k hk => by
    rcases HA3.out k hk with h | h
    · exact .inl h
    · right; simp at h; omega
   have hE := put_end (v3 := .slice A' (p.order.length + 1) c') HD2.out ⟨h0, h1⟩ HS.out HF23.out (by rw [he, i64s_app, List.length_append]; exact HO3.out) hv3 HF4.out HB4.out HM5.out HF5.out.ofDrew
   refine ⟨rfl, _, hE.1, (HF01.out.trans (HN2.out.toFr _)).trans hE.2, fun k hk => ?_⟩
   rcases hv3 k hk with h | h
   · exact .inl h
   · right
     have := HN2.out.size
     have := HF01.out.size
     omega
end Go.Proofs.YtmibndkofoldkaaGreatDoor
namespace Go.Proofs.YtmibndkofoldkaaGreatDoor
set_option linter.unusedVariables false
set_option linter.unusedSimpArgs false
set_option linter.constructorNameAsVariable false
open Go.RowKit Go.Maps
def DP.forget (p : DP) : DP := { p with fresh := fun _ => none, order := [] }
theorem DP.Ok.forget {p : DP} (h : p.Ok) : p.forget.Ok := ⟨h.s1, h.s2, h.sureR, by simp [DP.forget], by simp [DP.forget], by simp [DP.forget], h.fz⟩
theorem forget_in {w : World} {base g bs bf : Nat} {v : Value} {p : DP} (h : Dk w base g bs bf v p) : Calls Tryz.prog 65 #[.pointer (some ⟨g, 0, none⟩)] w fun e w' => e = .returned (.tuple #[]) ∧ Dk w' base g bs bf (.slice none 0 0) p.forget ∧ Fr (fun k => k = g ∨ k = bf) w w' := by
 have H := Lib.hid h
 have c2 := h.blk.cell 2
 clear h
 go_enter Tryz.func65, Tryz.ntmps65
 go_wp2_with ((with_reducible refine atOp ⟨none, .call _, _, _, _, _⟩ ?_); refine wpList_mclear H.out.mw Tryz.underlying136 rfl (.tmp 5) rfl rfl ?_; intro w1 hM1 hF1; have hB1 := H.out.blk.fr hF1 H.out.gf; have d3 := hB1.cell 3; have f3 := hB1.frozen 3; have HM1 := Lib.hid hM1; have HF1 := Lib.hid hF1; have HB1 := Lib.hid hB1; clear hM1 hF1 hB1)
 go_end0
 have hF2 : Fr (fun k => k = g) w1 (w1.setCell ⟨g, 3, none⟩ (.slice none 0 0)) := (Fr.refl _ _).setCell (S := fun k => k = g) (p := ⟨g, 3, none⟩) (fun _ => rfl) _
 refine ⟨rfl, ⟨HB1.out.set 3 _, (H.out.ms.fr HF1.out H.out.ne).fr hF2 (fun e => H.out.gs e.symm), ?_, World.ownsRow_nil _ _ _ _, H.out.ne, H.out.lo, H.out.ok.forget⟩, (HF1.out.mono fun b _ hb => .inr hb).trans (hF2.mono fun b _ hb => .inl hb)⟩
 have := (HM1.out.fr hF2 (fun e => H.out.gf e.symm)).mono (show 0 ≤ p.size by omega)
 rw [← mf_none] at this
 exact this
set_option maxHeartbeats 4000000 in
set_option maxRecDepth 100000 in
theorem copy_any (bd bs nd ns : Nat) (fd fs : Lit → Option Value) (w : World) (hd : MapAt w Tryz.prog 3 bd nd fd) (hs : MapAt w Tryz.prog 3 bs ns fs) (hne : bd ≠ bs) (hsec : ∀ kl v, fs kl = some v → ∃ s, v = .agg (secA s) ∧ SecOk s) (hroom : nd + ns ≤ maxLen) :
    Calls Tryz.prog 197 #[.map (some bd), .map (some bs)] w fun e w' => e = .returned (.tuple #[]) ∧ MapAt w' Tryz.prog 3 bd (nd + ns) (orF fs fd) ∧ Fr (fun k => k = bd) w w' := by
 obtain ⟨Dd, hd, hfd⟩ := hd
 obtain ⟨Ds, hs, hfs⟩ := hs
 have hbd := hd.lt
 have hbs := hs.lt
 have hsz := hs.size_le
 have HFD := Lib.hid hfd
 have HFS := Lib.hid hfs
 have HSEC := Lib.hid hsec
 clear hfd hfs hsec
 go_enter Tryz.func197, Tryz.ntmps197
 go_wp2_with (at_range; refine wpList_range_own _ rfl _ 136 rfl 3 154 kI Tryz.underlying136 Rv bs ns _ rfl hs ?_; intro w0 hrg0 hg0 hs0)
 go_frame
 go_loopw [8] (fun _ wr => ∃ (left : Lit → Bool) (cnt : Nat) (Dout : DataW Value), wr.ranges Tryz.prog 3 Rv bs w.heap.size ns Ds left cnt ∧ cnt ≤ Maps.size Ds ∧
     wr.ownsMap Tryz.prog 3 Rv bd (nd + (Maps.size Ds - cnt)) Dout ∧ Merged Dout Dd Ds left ∧ Hid (Fr (fun k => k = bd) w wr))
  (fun _ wr => wr.rangeLeft bs w.heap.size)
 case atStart =>
  exact ⟨_, _, Dd, hrg0, Nat.le_refl _, (hd.kept hg0 (by simp)).mono (by omega), merged_start Dd Ds, Lib.hid ((Fr.refl _ w).grown hg0 (fun k _ h => by cases h))⟩
 case round =>
  obtain ⟨left, cnt, Dout, hrg, hcs, hout, hM, HFW⟩ := hrel
  go_wp2_with (at_next; refine wpList_next_ranges _ rfl _ rfl 3 kI Rv id id (fun key _ _ => ⟨key, rfl⟩) (fun v _ _ => ⟨v, rfl⟩) bs w.heap.size ns _ _ _ rfl hrg ?_ ?_)
  · intro hc0 hl0
    go_wp2_with fail
    go_end0
    subst hc0
    exact ⟨rfl, ⟨Dout, hout.mono (by omega), merged_end hM hl0 HFD.out HFS.out⟩, HFW.out⟩
  · intro x c kl yd yp w1 cnt1 hkey hlx hv hat hrg1 hlt hg1 hs1 hen
    have hy : yd = .held c ∧ yp = [] := by unfold Rv at hv; injection hv with hv; injection hv with h1 h2; exact ⟨h1.symm, h2.symm⟩
    obtain ⟨s, hcs1, hsok⟩ := HSEC.out kl c (by
     rw [HFS.out kl, Maps.has_true_of_atKey hat, if_pos rfl, hat, hy.1]; rfl)
    rw [hcs1] at hen
    have hkey' : keyOf Tryz.prog 3 x = some kl := hkey
    obtain ⟨w2, hw2⟩ : ∃ w2 : World, w2 = w1.alloc (.cells (secA s) 154) := ⟨_, rfl⟩
    have hN2 : New w1 w2 := by rw [hw2]; exact New.al (New.refl _) _
    have hb2 : Blk w2 w1.heap.size 154 (secA s) := by rw [hw2]; exact Blk.new _ _ _
    have hg12 : w1.grownBy w2 none := by rw [hw2]; exact World.grownBy_alloc _ _ _
    have hout2 := (hout.kept hg1 (fun e => by have := Option.some.inj e; omega)).kept hg12 (by simp)
    have hrg2 := hrg1.kept hg12 (by simp) (by simp)
    have hv2 : Rv (.agg (secA s)) = some (yd, yp) := by rw [hy.1, hy.2, hcs1]; rfl
    have HW2 : Hid (w1.alloc (.cells (secA s) 154) = w2) := Lib.hid hw2.symm
    have HB2 := Lib.hid hb2
    have HSO := Lib.hid hsok
    have HG1 := Lib.hid hg1
    have HG12 := Lib.hid hg12
    have HY := Lib.hid hy
    have HCS := Lib.hid hcs1
    clear hw2 hb2 hsok hN2 hs0 hs1 hg1 hg12 hy hv
    subst hcs1
    go_wp2_with (first
     | ((with_reducible refine atOp ⟨some 5, .alloc _, _, _, _, _⟩ ?_); refine wpList_alloc_sec rfl rfl secInfo ?_)
     | ((with_reducible refine atOp ⟨none, .store 154 _ _, _, _, _, _⟩ ?_); refine wpList_store_last rfl (.tmp 5) (.tmp 12) rfl rfl sec0_ok.1 HSO.out.1 rfl rfl ?_; rw [HW2.out])
     | ((with_reducible refine atOp ⟨some 15, .load _ _, _, _, _, _⟩ ?_); refine wpList_load_blk (s := s) rfl _ rfl Tryz.underlying154 rfl rfl HB2.out HSO.out.1 ?_)
     | (at_mapUpdate; refine wpList_mapUpdate_own _ rfl _ _ _ 136 rfl 3 154 kI Tryz.underlying136 Rv bd _ _ rfl hout2 (by omega) _ _ _ rfl rfl hkey' yd yp hv2 ?_; intro w3 hout3 hg3; go_frame))
    have hrg3 := hrg2.kept hg3 (fun e => hne (Option.some.inj e).symm) (fun e => by have := Option.some.inj e; omega)
    go_roundw
    case rel =>
     refine ⟨_, cnt1, _, hrg3, by omega, hout3.mono (by omega), ?_, Lib.hid (((HFW.out.grown HG1.out (fun k hk e => by cases e; exact absurd hk (Nat.lt_irrefl _))).grown HG12.out (fun k _ e => by cases e)).grown hg3 (fun k _ e => by cases e; rfl))⟩
     exact merged_step hM hout.isMap (kI.key hkey) hat
    case measure => rw [hrg3.left_eq, hrg.left_eq]; exact hlt
theorem sync_down {w : World} {base g bs bf : Nat} {v : Value} {p : DP} (h : Dk w base g bs bf v p) (hd : p.down = true) : Calls Tryz.prog 167 #[.pointer (some ⟨g, 0, none⟩)] w fun e w' => e = .returned (.iface 55 (.int .i64 14)) ∧ w = w' := by
 have c5 : w.cell? ⟨g, 5, none⟩ = some (.bool true) := by rw [h.blk.cell 5]; simp [hd]
 clear h hd
 go_enter Tryz.func167, Tryz.ntmps167
 go_wp2_with fail
 go_ret
 exact ⟨rfl, rfl⟩
theorem sync_in {w : World} {base g bs bf : Nat} {v : Value} {p : DP} (h : Dk w base g bs bf v p) (hd : p.down = false) : Calls Tryz.prog 167 #[.pointer (some ⟨g, 0, none⟩)] w fun e w' => e = .returned .nilIface ∧ Dk w' base g bs bf (.slice none 0 0) p.sync ∧ Fr (fun k => k = g ∨ k = bs ∨ k = bf) w w' := by
 have H := Lib.hid h
 have c5 : w.cell? ⟨g, 5, none⟩ = some (.bool false) := by rw [h.blk.cell 5]; simp [hd]
 have c1 : w.cell? ⟨g, 1, none⟩ = some (.map (some bs)) := h.blk.cell 1
 have c2 : w.cell? ⟨g, 2, none⟩ = some (.map (some bf)) := h.blk.cell 2
 have hroom : p.size + p.size ≤ maxLen := by have := h.ok.s2; unfold maxLen; omega
 have HR := Lib.hid hroom
 clear h hd hroom
 go_enter Tryz.func167, Tryz.ntmps167
 go_wp2_with fail
 go_region_held3 (fun w' => w'.cell? ⟨g, 1, none⟩ = some (.map (some bs)) ∧ w'.cell? ⟨g, 2, none⟩ = some (.map (some bf)))
  (first | exact hS1 | go_keep)
  ((go_at_call 197; refine (copy_any bs bf p.size p.size _ _ _ (H.out.ms.fr (S := NoB) ((Fr.refl _ w).drew) (fun x => x)) (H.out.mw.fr (S := NoB) ((Fr.refl _ w).drew) (fun x => x)) H.out.ne (fun kl v hv => mf_shape H.out.ok.freshR hv) HR.out).mono ?_; rintro e w1 ⟨rfl, hM1, hF1⟩; have hB1 := H.out.blk.drew.fr hF1 H.out.gs; have hS1 : w1.cell? ⟨g, 1, none⟩ = some (.map (some bs)) ∧ w1.cell? ⟨g, 2, none⟩ = some (.map (some bf)) := ⟨hB1.cell 1, hB1.cell 2⟩; have HM1 := Lib.hid hM1; have HF1 := Lib.hid hF1.ofDrew; have HB1 := Lib.hid hB1; clear hM1 hF1 hB1))
 go_wp2_with fail
 have hD1 : Dk w1 base g bs bf v { p with sure := p.sync.sure } := by
  refine ⟨HB1.out, ?_, H.out.mw.fr HF1.out (fun e => H.out.ne e.symm), own_fr H.out.own HF1.out (fun k hk => H.out.vs k hk), H.out.ne, H.out.lo, ⟨H.out.ok.s1, H.out.ok.s2, H.out.ok.sync.sureR, H.out.ok.freshR, H.out.ok.nod, H.out.ok.ord, H.out.ok.fz⟩⟩
  have := HM1.out
  rw [mf_or] at this
  exact this.tight kI _ fun kl hk => mf_keys H.out.ok.sync.sureR kl hk
 refine (forget_in hD1).mono ?_
 rintro e w2 ⟨rfl, hD2, hF2⟩
 have HD2 := Lib.hid hD2
 have HF2 := Lib.hid hF2
 clear hD2 hF2 hD1
 go_wp2_with fail
 go_ret
 exact ⟨rfl, HD2.out, (HF1.out.mono fun b _ hb => .inr (.inl hb)).trans (HF2.out.mono fun b _ hb => hb.imp id .inr)⟩
end Go.Proofs.YtmibndkofoldkaaGreatDoor
namespace Go.Proofs.YtmibndkofoldkaaGreatDoor
set_option linter.unusedVariables false
set_option linter.unusedSimpArgs false
set_option linter.constructorNameAsVariable false
open Go.RowKit Go.Maps
def errD (n : Int) : Value := if n = 0 then .nilIface else .iface 55 (.int .i64 n)
theorem errD_0 : errD 0 = .nilIface := rfl
theorem errD_n {n : Int} (h : n ≠ 0) : errD n = .iface 55 (.int .i64 n) := if_neg h
def DP.within (p : DP) (a : Int) : Bool := decide (0 ≤ a ∧ a < p.size)
def DP.wcode (p : DP) (a : Int) : Int := if p.within a = true then (if p.fuse = 0 ∨ p.down = true then 14 else 0) else 1
def DP.doWrite (p : DP) (a : Int) (s : List Int) : DP := if p.within a = true then (if p.fuse = 0 ∨ p.down = true then p.fall else p.write a s) else p
def DP.scode (p : DP) : Int := if p.down = true then 14 else 0
def DP.doSync (p : DP) : DP := if p.down = true then p else p.sync
def DP.rcode (p : DP) (a : Int) : Int := if p.within a = true then 0 else 1
def DP.rget (p : DP) (a : Int) : List Int := if p.within a = true then p.get a else sec0
theorem write_all {w : World} {base g bs bf : Nat} {v : Value} {p : DP} (h : Dk w base g bs bf v p) (a : Int) {s : List Int} (hs : SecOk s) :
    Calls Tryz.prog 166 #[.pointer (some ⟨g, 0, none⟩), .int .i64 a, .agg (secA s)] w fun e w' => e = .returned (errD (p.wcode a)) ∧ ∃ v', Dk w' base g bs bf v' (p.doWrite a s) ∧ Fr (DkOurs g bs bf v) w w' ∧ ∀ k, v'.ownBlock = some k → base ≤ k ∧ (v.ownBlock = some k ∨ w.heap.size ≤ k) := by
 unfold DP.wcode DP.doWrite DP.within
 by_cases hw : 0 ≤ a ∧ a < p.size
 · rw [decide_eq_true hw]
   by_cases hd : p.fuse = 0 ∨ p.down = true
   · simp only [if_true, if_pos hd]
     refine (write_down h s hw.1 hw.2 hd).mono ?_
     rintro e w' ⟨rfl, h1, h2⟩
     exact ⟨rfl, v, h1, h2.mono fun b _ hb => .inl hb, fun k hk => ⟨(own_lt h1.own k hk).1, .inl hk⟩⟩
   · simp only [if_true, if_neg hd]
     have h0 : p.down = false := by
      cases hq : p.down with
      | true => exact absurd (.inr hq) hd
      | false => rfl
     refine (write_in h hw.1 hw.2 hs h0 (fun e => hd (.inl e))).mono ?_
     rintro e w' ⟨rfl, v', h1, h2, h3⟩
     exact ⟨rfl, v', h1, h2, fun k hk => ⟨(own_lt h1.own k hk).1, h3 k hk⟩⟩
 · rw [decide_eq_false hw]
   simp only [Bool.false_eq_true, if_false]
   refine (write_out h s hw).mono ?_
   rintro e w' ⟨rfl, h1⟩
   exact ⟨rfl, v, h.new h1, h1.toFr _, fun k hk => ⟨(own_lt h.own k hk).1, .inl hk⟩⟩
theorem sync_all {w : World} {base g bs bf : Nat} {v : Value} {p : DP} (h : Dk w base g bs bf v p) :
    Calls Tryz.prog 167 #[.pointer (some ⟨g, 0, none⟩)] w fun e w' => e = .returned (errD p.scode) ∧ ∃ v', Dk w' base g bs bf v' p.doSync ∧ Fr (DkOurs g bs bf v) w w' ∧ ∀ k, v'.ownBlock = some k → base ≤ k ∧ (v.ownBlock = some k ∨ w.heap.size ≤ k) := by
 unfold DP.scode DP.doSync
 by_cases hd : p.down = true
 · simp only [if_pos hd]
   refine (sync_down h hd).mono ?_
   rintro e w' ⟨rfl, rfl⟩
   exact ⟨rfl, v, h, Fr.refl _ _, fun k hk => ⟨(own_lt h.own k hk).1, .inl hk⟩⟩
 · simp only [if_neg hd]
   refine (sync_in h (by simpa using hd)).mono ?_
   rintro e w' ⟨rfl, h1, h2⟩
   refine ⟨rfl, _, h1, h2.mono fun b _ hb => ?_, fun k hk => by cases hk⟩
   rcases hb with rfl | rfl | rfl
   · exact .inl rfl
   · exact .inr (.inl rfl)
   · exact .inr (.inr (.inl rfl))
theorem read_all {w : World} {base g bs bf : Nat} {v : Value} {p : DP} (h : Dk w base g bs bf v p) (a : Int) :
    Calls Tryz.prog 162 #[.pointer (some ⟨g, 0, none⟩), .int .i64 a] w fun e w' => e = .returned (.tuple #[.agg (secA (p.rget a)), errD (p.rcode a)]) ∧ New w w' := by
 unfold DP.rcode DP.rget DP.within
 by_cases hw : 0 ≤ a ∧ a < p.size
 · rw [decide_eq_true hw]
   exact read_in h hw.1 hw.2
 · rw [decide_eq_false hw]
   exact read_out h hw
theorem DP.Ok.rget {p : DP} (h : p.Ok) (a : Int) : SecOk (p.rget a) := by
 unfold DP.rget
 split
 · exact h.get a
 · exact sec0_ok
end Go.Proofs.YtmibndkofoldkaaGreatDoor
namespace Go.Proofs.YtmibndkofoldkaaGreatDoor
set_option linter.unusedVariables false
set_option linter.unusedSimpArgs false
set_option linter.constructorNameAsVariable false
open Go.RowKit
structure DkTo (w : World) (base g bs bf : Nat) (v : Value) (p : DP) (w' : World) (v' : Value) : Prop where
 dk : Dk w' base g bs bf v' p
 fr : Fr (DkOurs g bs bf v) w w'
 own : ∀ k, v'.ownBlock = some k → base ≤ k ∧ (v.ownBlock = some k ∨ w.heap.size ≤ k)
section
variable {w w' w'' : World} {base g bs bf : Nat} {v v' v'' : Value} {p q : DP}
theorem DkTo.same (h : Dk w base g bs bf v p) (hN : New w w') : DkTo w base g bs bf v p w' v := ⟨h.new hN, hN.toFr _, fun k hk => ⟨(h.ours k (.inr (.inr (.inr hk)))).1, .inl hk⟩⟩
theorem DkTo.new (h : DkTo w base g bs bf v p w' v') (hN : New w' w'') : DkTo w base g bs bf v p w'' v' := ⟨h.dk.new hN, h.fr.trans (hN.toFr _), h.own⟩
theorem DkTo.tr (h : DkTo w base g bs bf v p w' v') (k : DkTo w' base g bs bf v' q w'' v'') : DkTo w base g bs bf v q w'' v'' :=
 ⟨k.dk, h.fr.trans' k.fr (fun b hb ho => by
  rcases ho with ho | ho | ho | ho
  · exact .inl ho
  · exact .inr (.inl ho)
  · exact .inr (.inr (.inl ho))
  · rcases (h.own b ho).2 with h1 | h1
    · exact .inr (.inr (.inr h1))
    · omega), fun b hb => ⟨(k.own b hb).1, by
  rcases (k.own b hb).2 with h1 | h1
  · exact (h.own b h1).2
  · exact .inr (by have := h.fr.size; omega)⟩⟩
end
theorem dk_notBlk {w : World} {base g bs bf : Nat} {v : Value} {p : DP} (h : Dk w base g bs bf v p) {k t : Nat} {cs : Array Value} (hk : Blk w k t cs) (h1 : k ≠ g) (h2 : t ≠ 3) : ¬ DkOurs g bs bf v k := by
 rintro (ho | ho | ho | ho)
 · exact h1 ho
 · exact blk_map hk h.ms ho
 · exact blk_map hk h.mw ho
 · exact own_ne h.own hk (Ne.symm h2) ho
end Go.Proofs.YtmibndkofoldkaaGreatDoor
