/- What a disk is in memory, and in plain words. No condition. -/
import Derived.Test.YtpdgnidoglmgcaaMapB
import Derived.Test.YtpdgnidoglmgcaaSec
import Derived.Test.YtpdgnidoglmgcaaOpenS
namespace Go.Proofs.Ytpdgnidoglmgcaa
open Go.RowKit Go.Maps

def SecOk (s : List Int) : Prop := s.length = 64 ∧ Byt s
def sec0 : List Int := List.replicate 64 0
theorem sec0_ok : SecOk sec0 := ⟨by simp [sec0], fun x hx => by simp [sec0] at hx; omega⟩
def i64s (xs : List Int) : List Value := xs.map (Value.int .i64)
theorem i64s_len (xs : List Int) : (i64s xs).length = xs.length := by simp [i64s]
theorem i64s_one (xs : List Int) : ∀ u ∈ i64s xs, u.oneCell' = true := by
  intro u hu
  simp only [i64s, List.mem_map] at hu
  obtain ⟨x, _, rfl⟩ := hu
  rfl
theorem i64s_app (xs : List Int) (x : Int) : i64s (xs ++ [x]) = i64s xs ++ [.int .i64 x] := by simp [i64s]
theorem elI : ElemOf Try.prog 56 3 1 8 := ElemOf.mk' (z := .int .i64 0) Try.underlying56 (by kernel_rfl) rfl (by decide)
theorem kI : Keyed Try.prog 3 := int_keyed Try.underlying3

/-- A disk in plain words: what is sure, what waits and in which order, the fuse, whether it is down. -/
structure DP where
  size : Nat
  sure : Int → Option (List Int)
  fresh : Int → Option (List Int)
  order : List Int
  fuse : Int
  down : Bool
def upd (F : Int → Option (List Int)) (a : Int) (s : Option (List Int)) : Int → Option (List Int) := fun x => if x = a then s else F x
structure DP.Ok (p : DP) : Prop where
  s1 : 1 ≤ p.size
  s2 : p.size ≤ 16384
  sureR : ∀ a s, p.sure a = some s → (0 ≤ a ∧ a < p.size) ∧ SecOk s
  freshR : ∀ a s, p.fresh a = some s → (0 ≤ a ∧ a < p.size) ∧ SecOk s
  nod : p.order.Nodup
  ord : ∀ a, a ∈ p.order ↔ p.fresh a ≠ none
  fz : -1 ≤ p.fuse ∧ p.fuse ≤ 9223372036854775807
def DP.new (n : Nat) : DP := ⟨n, fun _ => none, fun _ => none, [], -1, false⟩
def DP.get (p : DP) (a : Int) : List Int := match p.fresh a with | some s => s | none => (p.sure a).getD sec0
def DP.put (p : DP) (a : Int) (s : List Int) : DP := { p with order := if p.fresh a = none then p.order ++ [a] else p.order, fresh := upd p.fresh a (some s) }
def DP.burn (p : DP) : DP := { p with fuse := if 0 < p.fuse then p.fuse - 1 else p.fuse }
def DP.write (p : DP) (a : Int) (s : List Int) : DP := p.burn.put a s
def DP.sync (p : DP) : DP := { p with sure := fun a => match p.fresh a with | some s => some s | none => p.sure a, fresh := fun _ => none, order := [] }
/-- What is sure when so many of those that wait were looked at. -/
def cutS (p : DP) (keep : List Bool) : Nat → Int → Option (List Int)
  | 0 => p.sure
  | j + 1 => if keep.getD j false = true then upd (cutS p keep j) (p.order.getD j 0) (p.fresh (p.order.getD j 0)) else cutS p keep j
def DP.cut (p : DP) (keep : List Bool) : DP := ⟨p.size, cutS p keep p.order.length, fun _ => none, [], -1, false⟩

theorem DP.new_ok {n : Nat} (h1 : 1 ≤ n) (h2 : n ≤ 16384) : (DP.new n).Ok :=
  ⟨h1, h2, fun _ _ h => by simp [DP.new] at h, fun _ _ h => by simp [DP.new] at h, by simp [DP.new], fun a => by simp [DP.new], by simp [DP.new]⟩
theorem DP.Ok.get {p : DP} (h : p.Ok) (a : Int) : SecOk (p.get a) := by
  unfold DP.get
  cases hf : p.fresh a with
  | some s => exact (h.freshR a s hf).2
  | none =>
    cases hs : p.sure a with
    | some s => exact (h.sureR a s hs).2
    | none => exact sec0_ok
theorem DP.Ok.inOrd {p : DP} (h : p.Ok) {a : Int} (ha : a ∈ p.order) : 0 ≤ a ∧ a < p.size := by
  have := (h.ord a).1 ha
  cases hf : p.fresh a with
  | none => exact absurd hf this
  | some s => exact (h.freshR a s hf).1
theorem DP.Ok.len {p : DP} (h : p.Ok) : p.order.length ≤ p.size := by
  have : (p.order.map Int.toNat).length ≤ p.size := by
    refine nodup_lt ?_ ?_
    · rw [List.Nodup, List.pairwise_map]
      refine List.Pairwise.imp_of_mem ?_ h.nod
      intro x y hx hy hne he
      have := h.inOrd hx
      have := h.inOrd hy
      omega
    · intro x hx
      obtain ⟨y, hy, rfl⟩ := List.mem_map.1 hx
      have := h.inOrd hy
      omega
  simpa using this
theorem DP.Ok.put {p : DP} (h : p.Ok) {a : Int} (ha : 0 ≤ a ∧ a < p.size) {s : List Int} (hs : SecOk s) : (p.put a s).Ok := by
  refine ⟨h.s1, h.s2, h.sureR, ?_, ?_, ?_, ?_⟩
  · intro b t hb
    simp only [DP.put, upd] at hb
    split at hb
    · next e => subst e; injection hb with hb; subst hb; exact ⟨ha, hs⟩
    · exact h.freshR b t hb
  · simp only [DP.put]
    split
    · next hn =>
      rw [List.nodup_append]
      refine ⟨h.nod, by simp, ?_⟩
      intro x hx y hy e
      simp at hy
      subst hy e
      exact (h.ord x).1 hx hn
    · exact h.nod
  · intro b
    simp only [DP.put, upd]
    by_cases e : b = a
    · subst e
      simp only [if_true]
      split
      · simp
      · next hn => simp [(h.ord b).2 hn]
    · rw [if_neg e]
      split
      · simp [e, h.ord b]
      · exact h.ord b
  · exact h.fz
theorem DP.Ok.burn {p : DP} (h : p.Ok) : p.burn.Ok := ⟨h.s1, h.s2, h.sureR, h.freshR, h.nod, h.ord, by have := h.fz; simp only [DP.burn]; split <;> omega⟩
theorem DP.Ok.write {p : DP} (h : p.Ok) {a : Int} (ha : 0 ≤ a ∧ a < p.size) {s : List Int} (hs : SecOk s) : (p.write a s).Ok := h.burn.put ha hs
theorem DP.Ok.sync {p : DP} (h : p.Ok) : p.sync.Ok := by
  refine ⟨h.s1, h.s2, ?_, by simp [DP.sync], by simp [DP.sync], by simp [DP.sync], h.fz⟩
  intro a s hs
  simp only [DP.sync] at hs
  cases hf : p.fresh a with
  | some t => rw [hf] at hs; injection hs with hs; subst hs; exact h.freshR a t hf
  | none => rw [hf] at hs; exact h.sureR a s hs
theorem cutS_ok {p : DP} (h : p.Ok) (keep : List Bool) : ∀ j a s, cutS p keep j a = some s → (0 ≤ a ∧ a < p.size) ∧ SecOk s
  | 0, a, s, hs => h.sureR a s hs
  | j + 1, a, s, hs => by
    simp only [cutS] at hs
    split at hs
    · simp only [upd] at hs
      split at hs
      · next e => subst e; exact h.freshR _ s hs
      · exact cutS_ok h keep j a s hs
    · exact cutS_ok h keep j a s hs
theorem DP.Ok.cut {p : DP} (h : p.Ok) (keep : List Bool) : (p.cut keep).Ok :=
  ⟨h.s1, h.s2, cutS_ok h keep _, by simp [DP.cut], by simp [DP.cut], by simp [DP.cut], by simp [DP.cut]⟩

/-- A map of sectors. -/
def mf (F : Int → Option (List Int)) : Lit → Option Value
  | .int .i64 a => (F a).map fun s => .agg (secA s)
  | _ => none
theorem mf_upd (F : Int → Option (List Int)) (a : Int) (s : Option (List Int)) : putF (mf F) (.int .i64 a) (s.map fun s => .agg (secA s)) = mf (upd F a s) := by
  funext x
  by_cases h : x = .int .i64 a
  · subst h
    rw [putF_same (by trivial)]
    simp [mf, upd]
  · rw [putF_other h]
    unfold mf upd
    split
    · next b => rw [if_neg (by rintro rfl; exact h rfl)]
    · rfl
theorem mf_or (F G : Int → Option (List Int)) : orF (mf F) (mf G) = mf fun a => match F a with | some s => some s | none => G a := by
  funext x
  unfold orF mf
  split
  · next b v h => split at h
                  · next a => cases hF : F a with
                    | none => rw [hF] at h; cases h
                    | some s => rw [hF] at h; simp [← h, hF]
                  · cases h
  · next b h => split at h
                · next a => cases hF : F a with
                  | none => simp [hF]
                  | some s => rw [hF] at h; cases h
                · rfl
theorem mf_none : mf (fun _ => none) = fun _ => none := by funext x; unfold mf; split <;> rfl
theorem mf_sec {p : DP} (h : ∀ a s, p.sure a = some s → (0 ≤ a ∧ a < p.size) ∧ SecOk s) : True := trivial
theorem mf_shape {F : Int → Option (List Int)} {n : Nat} (h : ∀ a s, F a = some s → (0 ≤ a ∧ a < n) ∧ SecOk s) {kl : Lit} {v : Value} (hv : mf F kl = some v) : ∃ s, v = .agg (secA s) ∧ SecOk s := by
  unfold mf at hv
  split at hv
  · next a => cases hF : F a with
    | none => rw [hF] at hv; cases hv
    | some s => rw [hF] at hv; injection hv with hv; exact ⟨s, hv.symm, (h a s hF).2⟩
  · cases hv
theorem mf_keys {F : Int → Option (List Int)} {n : Nat} (h : ∀ a s, F a = some s → (0 ≤ a ∧ a < n) ∧ SecOk s) (kl : Lit) (hv : mf F kl ≠ none) : ∃ a : Nat, kl = .int .i64 a ∧ a < n := by
  unfold mf at hv
  split at hv
  · next a => cases hF : F a with
    | none => rw [hF] at hv; exact absurd rfl hv
    | some s =>
      have := (h a s hF).1
      obtain ⟨m, rfl⟩ := Int.eq_ofNat_of_zero_le this.1
      exact ⟨m, rfl, by omega⟩
  · exact absurd rfl hv

/-- A disk at block g. -/
structure Dk (w : World) (base g bs bf : Nat) (v : Value) (p : DP) : Prop where
  blk : Blk w g 58 #[.int .i64 p.size, .map (some bs), .map (some bf), v, .int .i64 p.fuse, .bool p.down]
  ms : MapAt w Try.prog 3 bs p.size (mf p.sure)
  mw : MapAt w Try.prog 3 bf p.size (mf p.fresh)
  own : w.ownsRow base 3 1 v p.order.length (i64s p.order)
  ne : bs ≠ bf
  lo : base ≤ g ∧ base ≤ bs ∧ base ≤ bf
  ok : p.Ok
def DkOurs (g bs bf : Nat) (v : Value) (k : Nat) : Prop := k = g ∨ k = bs ∨ k = bf ∨ v.ownBlock = some k
section
variable {w w' : World} {base g bs bf : Nat} {v : Value} {p : DP}
theorem Dk.fr {S : Nat → Prop} (h : Dk w base g bs bf v p) (hf : Fr S w w') (hs : ∀ k, S k → ¬ DkOurs g bs bf v k) : Dk w' base g bs bf v p :=
  ⟨h.blk.fr hf (fun k => hs _ k (.inl rfl)), h.ms.fr hf (fun k => hs _ k (.inr (.inl rfl))), h.mw.fr hf (fun k => hs _ k (.inr (.inr (.inl rfl)))), own_fr h.own hf (fun _ hk k => hs _ k (.inr (.inr (.inr hk)))), h.ne, h.lo, h.ok⟩
theorem Dk.new (h : Dk w base g bs bf v p) (hN : New w w') : Dk w' base g bs bf v p := h.fr (hN.toFr NoB) (fun _ x => x.elim)
theorem Dk.ours (h : Dk w base g bs bf v p) : ∀ k, DkOurs g bs bf v k → base ≤ k ∧ k < w.heap.size := by
  rintro k (rfl | rfl | rfl | hk)
  · exact ⟨h.lo.1, h.blk.lt⟩
  · exact ⟨h.lo.2.1, h.ms.lt⟩
  · exact ⟨h.lo.2.2, h.mw.lt⟩
  · exact own_lt h.own k hk
theorem blk_map {t : TypeId} {cs : Array Value} {P : Program} {k : TypeId} {n b : Nat} {f : Lit → Option Value} {g : Nat} (h : Blk w g t cs) (hm : MapAt w P k b n f) : g ≠ b := by
  rintro rfl
  obtain ⟨D, ⟨es, clock, hb, _⟩, _⟩ := hm
  unfold Blk at h
  rw [h] at hb
  cases hb
theorem own_map {e s m k : Nat} {xs : List Value} {P : Program} {kt : TypeId} {n b : Nat} {f : Lit → Option Value} (h : w.ownsRow base e s v m xs) (hm : MapAt w P kt b n f) (hk : v.ownBlock = some k) : k ≠ b := by
  rcases h.2 with ⟨rfl, _⟩ | ⟨g', cap, cur, rfl, _, hh, _⟩
  · cases hk
  · have : g' = k := by simpa [Value.ownBlock] using hk
    subst this
    exact blk_map (t := e) hh hm
theorem Dk.gs (h : Dk w base g bs bf v p) : g ≠ bs := blk_map h.blk h.ms
theorem Dk.gf (h : Dk w base g bs bf v p) : g ≠ bf := blk_map h.blk h.mw
theorem Dk.vg (h : Dk w base g bs bf v p) : v.ownBlock ≠ some g := own_ne h.own h.blk (by decide)
theorem Dk.vs (h : Dk w base g bs bf v p) : ∀ k, v.ownBlock = some k → k ≠ bs := fun _ hk => own_map h.own h.ms hk
theorem Dk.vf (h : Dk w base g bs bf v p) : ∀ k, v.ownBlock = some k → k ≠ bf := fun _ hk => own_map h.own h.mw hk
end
end Go.Proofs.Ytpdgnidoglmgcaa
