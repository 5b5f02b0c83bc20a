/- The reference's disk: lists of sectors, in plain words and in memory; how it goes with the disk. No condition. -/
import Derived.Test.YtpdgnidoglmgcaaDkI
namespace Go.Proofs.Ytpdgnidoglmgcaa
open Go.RowKit Go.Maps

theorem snoc_ind {α : Type} {P : List α → Prop} (h0 : P []) (h1 : ∀ l a, P l → P (l ++ [a])) (l : List α) : P l := by
  have key : ∀ l : List α, P l.reverse := by
    intro l
    induction l with
    | nil => exact h0
    | cons a l ih => rw [List.reverse_cons]; exact h1 _ _ ih
  have := key l.reverse
  rwa [List.reverse_reverse] at this
/-- A sector that was put. -/
structure PU where
  pos : Int
  s : List Int
def PU.cells (x : PU) : List Value := .int .i64 x.pos :: u8s x.s
theorem PU.len {x : PU} (h : SecOk x.s) : x.cells.length = 65 := by simp [PU.cells, u8s_len, h.1]
theorem PU.one (x : PU) : ∀ u ∈ x.cells, u.oneCell' = true := by
  intro u hu
  rcases List.mem_cons.1 hu with rfl | hu
  · rfl
  · exact u8s_one _ u hu
def flatP (L : List PU) : List Value := L.flatMap PU.cells
theorem flatP_app (L M : List PU) : flatP (L ++ M) = flatP L ++ flatP M := by simp [flatP]
theorem flatP_one (x : PU) : flatP [x] = x.cells := by simp [flatP]
theorem flatP_cell (L : List PU) : ∀ u ∈ flatP L, u.oneCell' = true := by
  intro u hu
  obtain ⟨x, _, hx⟩ := List.mem_flatMap.1 hu
  exact x.one u hx

/-- The last one of a place. -/
def lastP (L : List PU) (x : Int) : Option (List Int) := L.foldl (fun acc p => if p.pos = x then some p.s else acc) none
theorem lastP_snoc (L : List PU) (p : PU) (x : Int) : lastP (L ++ [p]) x = if p.pos = x then some p.s else lastP L x := by simp [lastP, List.foldl_append]
theorem lastP_app (L M : List PU) (x : Int) : lastP (L ++ M) x = match lastP M x with | some s => some s | none => lastP L x := by
  induction M using snoc_ind with
  | h0 => simp [lastP]
  | h1 M p ih =>
    rw [← List.append_assoc, lastP_snoc, lastP_snoc, ih]
    split <;> rfl
theorem lastP_none {L : List PU} {x : Int} : lastP L x = none ↔ x ∉ L.map PU.pos := by
  induction L using snoc_ind with
  | h0 => simp [lastP]
  | h1 L p ih =>
    rw [lastP_snoc]
    split
    · next h => subst h; simp
    · next h => rw [ih]; simp; intro _ e; exact absurd e.symm h
theorem lastP_mem {L : List PU} {x : Int} {s : List Int} (h : lastP L x = some s) : ∃ p ∈ L, p.pos = x ∧ p.s = s := by
  induction L using snoc_ind with
  | h0 => simp [lastP] at h
  | h1 L p ih =>
    rw [lastP_snoc] at h
    split at h
    · next e => injection h with h; exact ⟨p, by simp, e, h⟩
    · obtain ⟨q, hq, h1, h2⟩ := ih h
      exact ⟨q, by simp [hq], h1, h2⟩
/-- The places that wait. -/
def waits (L : List PU) : List Int := L.foldl (fun acc p => if p.pos ∈ acc then acc else acc ++ [p.pos]) []
theorem waits_snoc (L : List PU) (p : PU) : waits (L ++ [p]) = if p.pos ∈ waits L then waits L else waits L ++ [p.pos] := by unfold waits; rw [List.foldl_append]; rfl
theorem mem_waits (L : List PU) : ∀ x : Int, x ∈ waits L ↔ x ∈ L.map PU.pos := by
  induction L using snoc_ind with
  | h0 => simp [waits]
  | h1 L p ih' =>
    intro x
    rw [waits_snoc]
    split
    · next h =>
      have h' := (ih' p.pos).1 h
      rw [ih']
      simp only [List.map_append, List.map_cons, List.map_nil, List.mem_append, List.mem_singleton]
      exact ⟨.inl, fun hx => hx.elim id fun e => e ▸ h'⟩
    · rw [List.mem_append, ih' x]; simp
theorem waits_len (L : List PU) : (waits L).length ≤ L.length := by
  induction L using snoc_ind with
  | h0 => simp [waits]
  | h1 L p ih =>
    rw [waits_snoc]
    split <;> simp <;> omega

/-- The reference's disk. -/
structure RP where
  size : Int
  sure : List PU
  fresh : List PU
  fuse : Int
  down : Bool
def RP.new (n : Int) : RP := ⟨n, [], [], -1, false⟩
def RP.burn (r : RP) : RP := { r with fuse := if 0 < r.fuse then r.fuse - 1 else r.fuse }
def RP.within (r : RP) (a : Int) : Bool := decide (0 ≤ a ∧ a < r.size)
def RP.wcode (r : RP) (a : Int) : Int := if r.within a = true then (if r.fuse = 0 ∨ r.down = true then 14 else 0) else 1
def RP.write (r : RP) (a : Int) (s : List Int) : RP := if r.within a = true then (if r.fuse = 0 ∨ r.down = true then { r with down := true } else { r.burn with fresh := r.fresh ++ [⟨a, s⟩] }) else r
def RP.scode (r : RP) : Int := if r.down = true then 14 else 0
def RP.sync (r : RP) : RP := if r.down = true then r else { r with sure := r.sure ++ r.fresh, fresh := [] }
def RP.rcode (r : RP) (a : Int) : Int := if r.within a = true then 0 else 1
def RP.rget (r : RP) (a : Int) : List Int := if r.within a = true then (match lastP r.fresh a with | some s => s | none => (lastP r.sure a).getD sec0) else sec0
def cutR (r : RP) (keep : List Bool) : Nat → List PU
  | 0 => r.sure
  | j + 1 => if keep.getD j false = true then cutR r keep j ++ [⟨(waits r.fresh).getD j 0, (lastP r.fresh ((waits r.fresh).getD j 0)).getD sec0⟩] else cutR r keep j
def RP.cut (r : RP) (keep : List Bool) : RP := ⟨r.size, cutR r keep (waits r.fresh).length, [], -1, false⟩
def RP.fused (r : RP) (a : Int) : RP := { r with fuse := max a (-1) }
def RP.Ok (r : RP) : Prop := (∀ x ∈ r.sure, SecOk x.s) ∧ ∀ x ∈ r.fresh, SecOk x.s
def RP.tot (r : RP) : Nat := r.sure.length + r.fresh.length

/-- The disk and the reference's. -/
structure Mt (p : DP) (r : RP) : Prop where
  size : r.size = p.size
  sure : ∀ x, p.sure x = lastP r.sure x
  fresh : ∀ x, p.fresh x = lastP r.fresh x
  order : p.order = waits r.fresh
  fuse : r.fuse = p.fuse
  down : r.down = p.down
theorem Mt.new (n : Nat) : Mt (DP.new n) (RP.new n) := ⟨rfl, fun _ => rfl, fun _ => rfl, rfl, rfl, rfl⟩
section
variable {p : DP} {r : RP}
theorem Mt.within (h : Mt p r) (a : Int) : r.within a = p.within a := by unfold RP.within DP.within; rw [h.size]
theorem Mt.wcode (h : Mt p r) (a : Int) : r.wcode a = p.wcode a := by unfold RP.wcode DP.wcode; rw [h.within, h.fuse, h.down]
theorem Mt.scode (h : Mt p r) : r.scode = p.scode := by unfold RP.scode DP.scode; rw [h.down]
theorem Mt.rcode (h : Mt p r) (a : Int) : r.rcode a = p.rcode a := by unfold RP.rcode DP.rcode; rw [h.within]
theorem Mt.rget (h : Mt p r) (a : Int) : r.rget a = p.rget a := by
  unfold RP.rget DP.rget DP.get
  rw [h.within, h.fresh a, h.sure a]
  rfl
theorem Mt.write (h : Mt p r) (a : Int) (s : List Int) : Mt (p.doWrite a s) (r.write a s) := by
  unfold DP.doWrite RP.write
  rw [h.within, h.fuse, h.down]
  split
  · split
    · exact ⟨h.size, h.sure, h.fresh, h.order, rfl, rfl⟩
    · refine ⟨h.size, h.sure, ?_, ?_, ?_, h.down⟩
      · intro x
        show upd p.fresh a (some s) x = lastP (r.fresh ++ [⟨a, s⟩]) x
        rw [lastP_snoc, upd, ← h.fresh x]
        by_cases e : x = a
        · subst e; simp
        · rw [if_neg e, if_neg (fun e' => e e'.symm)]
      · show (if p.fresh a = none then p.order ++ [a] else p.order) = waits (r.fresh ++ [⟨a, s⟩])
        rw [waits_snoc, h.order, h.fresh a]
        by_cases e : a ∈ waits r.fresh
        · rw [if_pos e, if_neg (fun e' => lastP_none.1 e' ((mem_waits _ _).1 e))]
        · rw [if_neg e, if_pos (lastP_none.2 fun e' => e ((mem_waits _ _).2 e'))]
      · show (if 0 < r.fuse then r.fuse - 1 else r.fuse) = if 0 < p.fuse then p.fuse - 1 else p.fuse
        rw [h.fuse]
  · exact h
theorem Mt.sync (h : Mt p r) : Mt p.doSync r.sync := by
  unfold DP.doSync RP.sync
  rw [h.down]
  split
  · exact h
  · refine ⟨h.size, ?_, fun _ => rfl, rfl, h.fuse, rfl⟩
    intro x
    show (match p.fresh x with | some s => some s | none => p.sure x) = lastP (r.sure ++ r.fresh) x
    rw [lastP_app, h.fresh x, h.sure x]
theorem Mt.cutS (h : Mt p r) (hok : p.Ok) (keep : List Bool) : ∀ j, j ≤ p.order.length → ∀ x, Go.Proofs.Ytpdgnidoglmgcaa.cutS p keep j x = lastP (cutR r keep j) x
  | 0, _, x => h.sure x
  | j + 1, hj, x => by
    simp only [Go.Proofs.Ytpdgnidoglmgcaa.cutS, cutR]
    split
    · rw [lastP_snoc, upd, ← h.order]
      have hlt : j < p.order.length := by omega
      have ha : p.order.getD j 0 ∈ p.order := by rw [List.getD_eq_getElem?_getD, List.getElem?_eq_getElem hlt]; exact List.getElem_mem _
      by_cases e : x = p.order.getD j 0
      · rw [if_pos e, if_pos e.symm, h.fresh]
        cases hf : lastP r.fresh (p.order.getD j 0) with
        | some s => rfl
        | none => exact absurd ((h.fresh _).trans hf) ((hok.ord _).1 ha)
      · rw [if_neg e, if_neg (fun e' => e e'.symm)]
        exact h.cutS hok keep j (by omega) x
    · exact h.cutS hok keep j (by omega) x
theorem Mt.cut (h : Mt p r) (hok : p.Ok) (keep : List Bool) : Mt (p.cut keep) (r.cut keep) :=
  ⟨h.size, fun x => by
    show Go.Proofs.Ytpdgnidoglmgcaa.cutS p keep p.order.length x = lastP (cutR r keep (waits r.fresh).length) x
    rw [← h.order]
    exact h.cutS hok keep _ (Nat.le_refl _) x, fun _ => rfl, rfl, rfl, rfl⟩
theorem Mt.fused (h : Mt p r) (a : Int) : Mt (p.fused a) (r.fused a) := ⟨h.size, h.sure, h.fresh, h.order, rfl, h.down⟩
theorem RP.Ok.write (h : r.Ok) (a : Int) {s : List Int} (hs : SecOk s) : (r.write a s).Ok := by
  unfold RP.write
  split
  · split
    · exact h
    · refine ⟨h.1, fun x hx => ?_⟩
      rcases List.mem_append.1 hx with hx | hx
      · exact h.2 x hx
      · obtain rfl := List.mem_singleton.1 hx; exact hs
  · exact h
theorem RP.Ok.sync (h : r.Ok) : r.sync.Ok := by
  unfold RP.sync
  split
  · exact h
  · refine ⟨fun x hx => ?_, by simp⟩
    rcases List.mem_append.1 hx with hx | hx
    · exact h.1 x hx
    · exact h.2 x hx
theorem lastP_ok {L : List PU} (h : ∀ x ∈ L, SecOk x.s) (x : Int) : SecOk ((lastP L x).getD sec0) := by
  cases hl : lastP L x with
  | none => exact sec0_ok
  | some s => obtain ⟨q, hq, _, e⟩ := lastP_mem hl; rw [← e]; exact h q hq
theorem cutR_ok (h : r.Ok) (keep : List Bool) : ∀ j, ∀ x ∈ cutR r keep j, SecOk x.s
  | 0 => h.1
  | j + 1 => by
    intro x hx
    simp only [cutR] at hx
    split at hx
    · rcases List.mem_append.1 hx with hx | hx
      · exact cutR_ok h keep j x hx
      · obtain rfl := List.mem_singleton.1 hx; exact lastP_ok h.2 _
    · exact cutR_ok h keep j x hx
theorem RP.Ok.cut (h : r.Ok) (keep : List Bool) : (r.cut keep).Ok := ⟨cutR_ok h keep _, by simp [RP.cut]⟩
theorem cutR_len (r : RP) (keep : List Bool) : ∀ j, (cutR r keep j).length ≤ r.sure.length + j
  | 0 => Nat.le_refl _
  | j + 1 => by
    have := cutR_len r keep j
    simp only [cutR]
    split <;> simp <;> omega
theorem RP.tot_write (r : RP) (a : Int) (s : List Int) : (r.write a s).tot ≤ r.tot + 1 := by
  unfold RP.write RP.tot
  split
  · split
    · simp
    · simp [RP.burn]; omega
  · omega
theorem RP.tot_sync (r : RP) : r.sync.tot ≤ r.tot := by
  unfold RP.sync RP.tot
  split <;> simp
theorem RP.tot_cut (r : RP) (keep : List Bool) : (r.cut keep).tot ≤ r.tot := by
  have h1 := cutR_len r keep (waits r.fresh).length
  have h2 := waits_len r.fresh
  simp only [RP.tot, RP.cut, List.length_nil]
  omega
theorem RP.Ok.rget (h : r.Ok) (a : Int) : SecOk (r.rget a) := by
  unfold RP.rget
  split
  · cases hl : lastP r.fresh a with
    | some s => obtain ⟨q, hq, _, e⟩ := lastP_mem hl; rw [← e]; exact h.2 q hq
    | none => exact lastP_ok h.1 a
  · exact sec0_ok
end

/-- Block b has cells of type t. -/
def IsT (t : TypeId) (w : World) (b : Nat) : Prop := ∃ (cs : Array Value) (fz : Nat × Nat), w.heap[b]? = some (.cells cs t fz)
theorem IsT.fr {t : TypeId} {w w' : World} {S : Nat → Prop} {b : Nat} (h : IsT t w b) (hf : Fr S w w') (hs : ¬ S b) : IsT t w' b := by
  obtain ⟨cs, fz, hb⟩ := h
  exact ⟨cs, fz, (hf.block b (Array.getElem?_eq_some_iff.1 hb).1 hs).trans hb⟩
theorem IsT.not_blk {t t' : TypeId} {w : World} {cs : Array Value} {k : Nat} (h : Blk w k t' cs) (ht : t' ≠ t) : ¬ IsT t w k := by
  rintro ⟨cs', fz, hb⟩
  unfold Blk at h
  rw [h] at hb
  injection hb with hb
  injection hb with _ hb
  exact ht hb
theorem IsT.not_own {t : TypeId} {w : World} {base e s n k : Nat} {v : Value} {xs : List Value} (h : w.ownsRow base e s v n xs) (he : e ≠ t) (hk : v.ownBlock = some k) : ¬ IsT t w k := by
  rcases h.2 with ⟨rfl, _⟩ | ⟨g', cap, cur, rfl, _, hh, _⟩
  · cases hk
  · have : g' = k := by simpa [Value.ownBlock] using hk
    subst this
    exact IsT.not_blk hh he
theorem IsT.not_map {t : TypeId} {w : World} {P : Program} {kt : TypeId} {b n : Nat} {f : Lit → Option Value} (h : MapAt w P kt b n f) : ¬ IsT t w b := by
  rintro ⟨cs, fz, hb⟩
  obtain ⟨D, ⟨es, clock, hx, _⟩, _⟩ := h
  rw [hx] at hb
  cases hb
/-- A slice that lies in blocks of type t. -/
def RdT (t : TypeId) (w : World) (size : Nat) (A : Option Addr) (n : Nat) (xs : List Value) : Prop := Rd (IsT t w) w size A n xs
section
variable {t : TypeId} {w w' : World} {S : Nat → Prop} {size n : Nat} {A : Option Addr} {xs : List Value}
theorem RdT.fr (h : RdT t w size A n xs) (hf : Fr S w w') (hs : ∀ k, S k → ¬ IsT t w k) : RdT t w' size A n xs := by
  refine ⟨h.1, fun hn => ?_⟩
  obtain ⟨ad, e, hb, hlt, hc⟩ := h.2 hn
  have hns : ¬ S ad.block := fun hk => hs _ hk hb
  exact ⟨ad, e, hb.fr hf hns, Nat.lt_of_lt_of_le hlt hf.size, fun j u hu => by
    have := hc j u hu
    rwa [← hf.cell (p := ad.add j) (by rw [add_block]; exact hlt) (by rw [add_block]; exact hns)] at this⟩
theorem RdT.new (h : RdT t w size A n xs) (hN : New w w') : RdT t w' size A n xs := h.fr (hN.toFr NoB) (fun _ x => x.elim)
theorem RdT.own {base : Nat} {v : Value} {c : Nat} (h : w.ownsRow base t size v n xs) (hv : v = .slice A n c) : RdT t w size A n xs := by
  refine ⟨h.1, fun hn => ?_⟩
  obtain ⟨ad, e, hp, hlt, hc⟩ := (Rd.own h hv).2 hn
  refine ⟨ad, e, ?_, hlt, hc⟩
  subst hv
  rcases h.2 with ⟨h', _⟩ | ⟨g', cap', cur, h', _, hh, _⟩
  · injection h' with h'; rw [h'] at e; cases e
  · injection h' with h'
    rw [h'] at e
    injection e with e
    subst e
    exact ⟨_, _, hh⟩
theorem RdT.nil : RdT t w size A 0 [] := Rd.nil
end
theorem dk_not {w : World} {base g bs bf : Nat} {v : Value} {p : DP} (h : Dk w base g bs bf v p) : ∀ k, DkOurs g bs bf v k → ¬ IsT 75 w k := by
  rintro k (rfl | rfl | rfl | hk)
  · exact IsT.not_blk h.blk (by decide)
  · exact IsT.not_map h.ms
  · exact IsT.not_map h.mw
  · exact IsT.not_own h.own (by decide) hk

/-- The reference's disk as a value. -/
def RfV (r : RP) (A1 : Option Addr) (c1 : Nat) (A2 : Option Addr) (c2 : Nat) : Array Value := #[.int .i64 r.size, .slice A1 r.sure.length c1, .slice A2 r.fresh.length c2, .int .i64 r.fuse, .bool r.down]
structure RfIn (w : World) (r : RP) (A1 A2 : Option Addr) : Prop where
  sure : RdT 75 w 65 A1 r.sure.length (flatP r.sure)
  fresh : RdT 75 w 65 A2 r.fresh.length (flatP r.fresh)
  ok : r.Ok
theorem RfIn.fr {w w' : World} {S : Nat → Prop} {r : RP} {A1 A2 : Option Addr} (h : RfIn w r A1 A2) (hf : Fr S w w') (hs : ∀ k, S k → ¬ IsT 75 w k) : RfIn w' r A1 A2 := ⟨h.sure.fr hf hs, h.fresh.fr hf hs, h.ok⟩
theorem RfIn.new {w w' : World} {r : RP} {A1 A2 : Option Addr} (h : RfIn w r A1 A2) (hN : New w w') : RfIn w' r A1 A2 := ⟨h.sure.new hN, h.fresh.new hN, h.ok⟩
/-- What a function of the reference's hands back. -/
def RfEnd (w : World) (r : RP) (n : Int) (e : Ending) : Prop := ∃ A1 c1 A2 c2, e = .returned (.tuple #[.agg (RfV r A1 c1 A2 c2), .int .i64 n]) ∧ RfIn w r A1 A2
def RfEnd1 (w : World) (r : RP) (e : Ending) : Prop := ∃ A1 c1 A2 c2, e = .returned (.agg (RfV r A1 c1 A2 c2)) ∧ RfIn w r A1 A2
theorem elP : ElemOf Try.prog 46 75 65 72 := ElemOf.mk' (z := .agg (⟨0, sec0⟩ : PU).cells.toArray) Try.underlying46 (by kernel_rfl) rfl (by decide)
end Go.Proofs.Ytpdgnidoglmgcaa
