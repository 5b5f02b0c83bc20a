/- Timers: the place of a number, ticks, New, Interval, Start, Len, Mean, Sent. No condition but the timer's own. -/
import Derived.Test.YtbgjoohnognagaaTmP
import Derived.Test.YtbgjoohnognagaaTicks
import Derived.Test.YtbgjoohnognagaaRows
import Derived.Deep.LoopGhost
namespace Go.Proofs.Ytbgjoohnognagaa
open Go.RowKit

/-- The bits of what is no number. -/
def nanBits : Nat := 9221120237041090561

/-- The timer at block g. -/
def Tm (w : World) (base g : Nat) (v : Value) (L : List Rn) (least most limit : Int) (mean : Nat) : Prop :=
  base ≤ g ∧ Blk w g 62 #[.int .i64 least, .int .i64 most, .int .i64 limit, .float .f64 mean, v] ∧ w.ownsRow base 65 5 v L.length (flat L) ∧ L.length ≤ 1000

section
variable {w w' : World} {base g : Nat} {v : Value} {L : List Rn} {least most limit : Int} {mean : Nat}
theorem Tm.fr {S : Nat → Prop} (h : Tm w base g v L least most limit mean) (hf : Fr S w w') (hg : ¬ S g) (hv : ∀ k, v.ownBlock = some k → ¬ S k) : Tm w' base g v L least most limit mean :=
  ⟨h.1, h.2.1.fr hf hg, own_fr h.2.2.1 hf hv, h.2.2.2⟩
theorem Tm.new (h : Tm w base g v L least most limit mean) (hn : New w w') : Tm w' base g v L least most limit mean := ⟨h.1, hn.blk h.2.1, hn.own h.2.2.1, h.2.2.2⟩
theorem Tm.ne (h : Tm w base g v L least most limit mean) : ∀ k, v.ownBlock = some k → ¬ k = g := fun k hk e => own_ne h.2.2.1 h.2.1 (by decide) (by rw [hk, e])
end

theorem elR : ElemOf Try.prog 60 65 5 40 := ElemOf.mk' (z := .agg #[.int .u64 0, .int .i64 0, .int .i64 0, .int .i64 0, .int .i64 0]) Try.underlying60 (by kernel_rfl) rfl (by decide)

theorem pclo_any (x : Rn) (n : Int) (pn : Addr) (w : World) (hp : w.cell? pn = some (.int .u64 n)) (hb : pn.block < w.heap.size) :
    Calls Try.prog 40 #[.agg #[.int .u64 x.n, .int .i64 x.b, .int .i64 x.d, .int .i64 x.l, .int .i64 x.s], .pointer (some pn)] w fun e w' => e = .returned (.bool (x.n == n)) ∧ Below w.heap.size w w' := by
  go_enter Try.func40, Try.ntmps40
  go_wp2
  go_ret
  exact ⟨rfl, (Below.refl _ _).alloc (Nat.le_refl _) _⟩

theorem idx_any (A : Option Addr) (n c : Nat) (L : List Rn) (a : Int) (pn : Addr) (w : World) (hp : w.cell? pn = some (.int .u64 a)) (hb : pn.block < w.heap.size)
    {p : Nat → Prop} (hL : Rd p w 5 A n (flat L)) (hn : n ≤ 1000000) :
    Calls Try.prog 39 #[.slice A n c, .func (.func 40) #[] #[.pointer (some pn)]] w fun e w' => e = .returned (.int .i64 (placeI L a)) ∧ Below w.heap.size w w' := by
  have hlen : L.length = n := by have := hL.1; rw [flat_len] at this; omega
  have HL := Lib.hid hlen; clear hlen
  have HR := Lib.hid hL; clear hL
  go_enter Try.func39, Try.ntmps39
  go_wp2_with fail
  go_loopw [5, 8] (fun _ i wr => ∃ k : Nat, k ≤ n ∧ i = .int .i64 k ∧ Hid (New w wr) ∧ Hid (∀ j, (hj : j < L.length) → j < k → L[j].n ≠ a)) (fun _ i _ => n - (intOf i).toNat)
  case atStart => exact ⟨0, Nat.zero_le _, rfl, Lib.hid (New.refl w), Lib.hid (fun j _ h => absurd h (by omega))⟩
  case round =>
    obtain ⟨k, hk, rfl, HN, hprev⟩ := hrel
    by_cases hlt : k < n
    · obtain ⟨g, o, hl, rfl, hpb, hbb, c0, c1, c2, c3, c4⟩ := rd_elem (HN.out.rd HR.out) hlt
      have hpr : wr.cell? pn = some (.int .u64 a) := HN.out.cell_ hp
      have hbr : pn.block < wr.heap.size := Nat.lt_of_lt_of_le hb HN.out.size
      by_cases heq : L[k].n = a
      · have hq : (L[k].n == a) = true := by simpa using heq
        have HF := Lib.hid (placeI_some (place_some hl heq fun j hj => hprev.out j (by omega) hj))
        have HE := Lib.hid heq
        clear heq
        go_wp2_with (go_at_call 40; refine (pclo_any _ _ _ _ hpr hbr).mono ?_; rintro e w1 ⟨rfl, hb1⟩)
        go_ret
        exact ⟨by rw [HF.out]; rfl, HN.out.tr hb1⟩
      · have hq : (L[k].n == a) = false := by simpa using heq
        have HE := Lib.hid heq
        clear heq
        go_wp2_with (go_at_call 40; refine (pclo_any _ _ _ _ hpr hbr).mono ?_; rintro e w1 ⟨rfl, hb1⟩)
        go_roundw
        case rel =>
          refine ⟨k + 1, by omega, by go_num, Lib.hid (HN.out.tr hb1), Lib.hid fun j h1 h2 => ?_⟩
          rcases Nat.lt_or_ge j k with h3 | h3
          · exact hprev.out j h1 h3
          · obtain rfl : j = k := by omega
            exact HE.out
        case measure => simp [intOf]; omega
    · go_wp2_with fail
      go_ret
      have hfin : placeI L a = -1 := placeI_none (place_none fun j hj => hprev.out j hj (by have := HL.out; omega))
      exact ⟨by rw [hfin]; rfl, HN.out⟩

theorem place_nil (a : Int) (w : World) : Calls Try.prog 25 #[.pointer none, .int .u64 a] w fun e w' => e = .returned (.int .i64 (-1)) ∧ Below w.heap.size w w' := by
  go_enter Try.func25, Try.ntmps25
  go_wp2_with fail
  go_ret
  exact ⟨rfl, (Below.refl _ _).alloc (Nat.le_refl _) _⟩
theorem place_any (base g : Nat) (v : Value) (L : List Rn) (least most limit : Int) (mean : Nat) (a : Int) (w : World) (hT : Tm w base g v L least most limit mean) :
    Calls Try.prog 25 #[.pointer (some ⟨g, 0, none⟩), .int .u64 a] w fun e w' => e = .returned (.int .i64 (placeI L a)) ∧ Below w.heap.size w w' := by
  obtain ⟨A, c, rfl, hnc, hcm, -, -⟩ := own_shape hT.2.2.1
  have h4 : w.cell? ⟨g, 4, none⟩ = some (.slice A L.length c) := hT.2.1.cell 4
  have hlt := hT.2.1.lt
  have HR := Lib.hid (Rd.own hT.2.2.1 rfl)
  have hlen := hT.2.2.2
  clear hT
  go_enter Try.func25, Try.ntmps25
  go_wp2_with (go_at_call 39; refine (idx_any A L.length c L a ⟨w.heap.size, 0, none⟩ _ (by simp) (by simp) ((New.al (New.refl w) _).rd HR.out) (by omega)).mono ?_; rintro e w1 ⟨rfl, hb1⟩)
  go_ret
  exact ⟨rfl, (New.al (New.refl w) _).tr hb1⟩

theorem run_max0 (a : Int) (w : World) : (Builtin.max_ #[3, 3] 3 #[.int .i64 a, .int .i64 0]).run Try.prog w = .ok (.int .i64 (if a < 0 then 0 else a)) w := by
  by_cases h : a < 0 <;> simp [Builtin.max_, Builtin.max2, h]
theorem tick_any (n : Int) (w : World) : Calls Try.prog 26 #[.int .i64 n] w fun e w' => e = .returned (.int .i64 (tickZ n)) ∧ w = w' := by
  have h1 := fun w => run_max0 n w
  have h2 := fun w => run_minI (if n < 0 then 0 else n) 1099511627776 w
  have h3 : (if 1099511627776 < (if n < 0 then 0 else n) then 1099511627776 else (if n < 0 then 0 else n)) = tickZ n := rfl
  rw [h3] at h2
  generalize (if n < 0 then 0 else n) = u at h1 h2
  generalize tickZ n = t at h2
  clear h3
  go_enter Try.func26, Try.ntmps26
  go_wp2_with fail
  go_ret
  exact ⟨rfl, rfl⟩
end Go.Proofs.Ytbgjoohnognagaa
