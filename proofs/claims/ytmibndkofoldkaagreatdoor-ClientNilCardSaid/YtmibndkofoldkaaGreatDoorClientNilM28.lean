/- Texts of one proof, one behind the other: TmP, Float, FloatB, Rat, RatC, Share, FloatC, FloatD, FloatE, FloatF, Ticks, TmA, TmB, TmC, TkA. No condition but each one's own. -/
import Derived.Test.YtmibndkofoldkaaGreatDoorClientNilM1
import Derived.Test.YtmibndkofoldkaaGreatDoorClientNilM6
import GoSem.Core.Float
import Derived.Test.YtmibndkofoldkaaGreatDoorRows
import Derived.Laws.FloatArith
import Derived.Deep.LoopGhost
import Derived.Deep.RegionWith
import Derived.WalkMore
import Derived.Deep.DeepCutAuto
namespace Go.Proofs.YtmibndkofoldkaaGreatDoor
set_option linter.unusedVariables false
set_option linter.unusedSimpArgs false
set_option linter.constructorNameAsVariable false
open Go.RowKit
structure Rn where
 n : Int
 b : Int
 d : Int
 l : Int
 s : Int
def Rn.cells (x : Rn) : List Value := [.int .u64 x.n, .int .i64 x.b, .int .i64 x.d, .int .i64 x.l, .int .i64 x.s]
def flat_l26 (L : List Rn) : List Value := L.flatMap Rn.cells
theorem flat_len_l26 (L : List Rn) : (flat_l26 L).length = L.length * 5 := by
 induction L with
 | nil => rfl
 | cons x L ih =>
  have : flat_l26 (x :: L) = x.cells ++ flat_l26 L := rfl
  rw [this, List.length_append, ih]
  simp [Rn.cells]
  omega
theorem flat_get_l26 (L : List Rn) (i j : Nat) (hi : i < L.length) (hj : j < 5) : (flat_l26 L)[i * 5 + j]? = (L[i].cells)[j]? := fm_get Rn.cells 5 L i j hi (fun _ _ => rfl) hj
theorem flat_app_l26 (L M : List Rn) : flat_l26 (L ++ M) = flat_l26 L ++ flat_l26 M := by simp [flat_l26]
theorem flat_one_l26 (x : Rn) : flat_l26 [x] = x.cells := by simp [flat_l26]
def place_l26 (L : List Rn) (a : Int) : Option Nat := L.findIdx? fun x => x.n == a
def placeI_l26 (L : List Rn) (a : Int) : Int := match place_l26 L a with | some i => i | none => -1
theorem place_some_l26 {L : List Rn} {a : Int} {i : Nat} (hi : i < L.length) (h : L[i].n = a) (hb : ∀ j, (hj : j < i) → (L[j]'(by omega)).n ≠ a) : place_l26 L a = some i := by
 unfold place_l26
 rw [List.findIdx?_eq_some_iff_getElem]
 refine ⟨hi, by simpa using h, fun j hj => ?_⟩
 simpa using hb j hj
theorem place_none_l26 {L : List Rn} {a : Int} (h : ∀ j, (hj : j < L.length) → L[j].n ≠ a) : place_l26 L a = none := by
 unfold place_l26
 rw [List.findIdx?_eq_none_iff]
 intro x hx
 obtain ⟨j, hj, rfl⟩ := List.mem_iff_getElem.1 hx
 simpa using h j hj
theorem placeI_some_l26 {L : List Rn} {a : Int} {i : Nat} (h : place_l26 L a = some i) : placeI_l26 L a = i := by unfold placeI_l26; rw [h]
theorem placeI_none_l26 {L : List Rn} {a : Int} (h : place_l26 L a = none) : placeI_l26 L a = -1 := by unfold placeI_l26; rw [h]
theorem rd_elem_l26 {p : Nat → Prop} {w : World} {A : Option Addr} {n : Nat} {L : List Rn} (h : Rd p w 5 A n (flat_l26 L)) {i : Nat} (hi : i < n) :
    ∃ (g o : Nat) (hl : i < L.length), A = some ⟨g, o, none⟩ ∧ p g ∧ g < w.heap.size ∧ w.cell? ⟨g, o + i * 5, none⟩ = some (.int .u64 L[i].n) ∧ w.cell? ⟨g, o + i * 5 + 1, none⟩ = some (.int .i64 L[i].b) ∧
     w.cell? ⟨g, o + i * 5 + 2, none⟩ = some (.int .i64 L[i].d) ∧ w.cell? ⟨g, o + i * 5 + 3, none⟩ = some (.int .i64 L[i].l) ∧ w.cell? ⟨g, o + i * 5 + 4, none⟩ = some (.int .i64 L[i].s) := by
 obtain ⟨g, o, hA, hp, hg, hc⟩ := h.out (by omega) (by omega)
 have hl : i < L.length := by have := h.1; rw [flat_len_l26] at this; omega
 have key : ∀ j, (hj : j < 5) → w.cell? ⟨g, o + (i * 5 + j), none⟩ = (L[i].cells)[j]? := fun j hj => by
  have hj' : j < (L[i].cells).length := hj
  have := flat_get_l26 L i j hl hj
  rw [List.getElem?_eq_getElem hj'] at this
  rw [hc _ _ this, List.getElem?_eq_getElem hj']
 refine ⟨g, o, hl, hA, hp, hg, ?_, ?_, ?_, ?_, ?_⟩
 · exact key 0 (by omega)
 · rw [Nat.add_assoc]; exact key 1 (by omega)
 · rw [Nat.add_assoc]; exact key 2 (by omega)
 · rw [Nat.add_assoc]; exact key 3 (by omega)
 · rw [Nat.add_assoc]; exact key 4 (by omega)
def tickZ (n : Int) : Int := if 1099511627776 < (if n < 0 then 0 else n) then 1099511627776 else (if n < 0 then 0 else n)
theorem tickZ_in (n : Int) : 0 ≤ tickZ n ∧ tickZ n ≤ 1099511627776 := by unfold tickZ; split <;> split <;> omega
end Go.Proofs.YtmibndkofoldkaaGreatDoor
namespace Go.Proofs.YtmibndkofoldkaaGreatDoor
set_option linter.unusedVariables false
set_option linter.unusedSimpArgs false
set_option linter.constructorNameAsVariable false
open Ieee
def vOf (B r : Nat) : Nat := if r < B then r else (B + r % B) * 2 ^ (r / B - 1)
theorem vOf_succ (B r : Nat) (hB : 0 < B) : vOf B r < vOf B (r + 1) := by
 unfold vOf
 by_cases h1 : r + 1 < B
 · rw [if_pos (by omega), if_pos h1]; omega
 · by_cases h2 : r < B
   · have e : r + 1 = B := by omega
     rw [if_pos h2, if_neg h1, e, Nat.mod_self, Nat.div_self hB]
     simp; omega
   · rw [if_neg h2, if_neg h1]
     have hd : 1 ≤ r / B := (Nat.le_div_iff_mul_le hB).2 (by omega)
     have hm := Nat.mod_lt r hB
     have hr := Nat.div_add_mod r B
     have hp : 0 < 2 ^ (r / B - 1) := Nat.pow_pos (by omega)
     by_cases h3 : r % B + 1 < B
     · have e1 : (r + 1) / B = r / B := by
        rw [Nat.div_eq_iff hB, Nat.mul_comm]; omega
       have e2 : (r + 1) % B = r % B + 1 := by
        have := Nat.div_add_mod (r + 1) B
        rw [e1] at this; omega
       rw [e1, e2]
       exact Nat.mul_lt_mul_of_pos_right (by omega) hp
     · have e0 : r + 1 = B * (r / B + 1) := by rw [Nat.mul_add]; omega
       have e1 : (r + 1) / B = r / B + 1 := by rw [e0, Nat.mul_div_cancel_left _ hB]
       have e2 : (r + 1) % B = 0 := by rw [e0, Nat.mul_mod_right]
       rw [e1, e2]
       have e3 : r / B + 1 - 1 = (r / B - 1) + 1 := by omega
       rw [e3, Nat.pow_succ, Nat.add_zero]
       calc (B + r % B) * 2 ^ (r / B - 1) < (B * 2) * 2 ^ (r / B - 1) := Nat.mul_lt_mul_of_pos_right (by omega) hp
        _ = B * (2 ^ (r / B - 1) * 2) := by rw [Nat.mul_assoc, Nat.mul_comm 2]
theorem vOf_lt {B : Nat} (hB : 0 < B) {r s : Nat} (h : r < s) : vOf B r < vOf B s := by
 induction s with
 | zero => omega
 | succ s ih =>
  rcases Nat.lt_or_ge r s with h1 | h1
  · exact Nat.lt_trans (ih h1) (vOf_succ B s hB)
  · have : r = s := by omega
    subst this; exact vOf_succ B r hB
theorem vOf_zero {B : Nat} (hB : 0 < B) : vOf B 0 = 0 := by simp [vOf, hB]
def neg63 (b : Nat) : Bool := decide (9223372036854775808 ≤ b)
def rung (b : Nat) : Nat := b % 9223372036854775808
def key (b : Nat) : Int := if neg63 b then -(rung b : Int) else (rung b : Int)
def isNan (b : Nat) : Prop := 9218868437227405312 < rung b
def sgn (s : Bool) (n : Nat) : Int := if s then -(n : Int) else n
theorem signed_eq (s : Bool) (m u : Nat) : signed s m u = sgn s (m * 2 ^ u) := by
 unfold signed sgn
 rw [Nat.shiftLeft_eq]
theorem compare_int (x y : Int) : compare x y = if x < y then .lt else if x = y then .eq else .gt := by
 simp only [compare, compareOfLessAndEq]
theorem compare_sgn {B : Nat} (hB : 0 < B) (s t : Bool) (r q : Nat) : compare (sgn s (vOf B r)) (sgn t (vOf B q)) = compare (sgn s r) (sgn t q) := by
 have z := vOf_zero hB
 have mono : ∀ a b : Nat, (vOf B a < vOf B b ↔ a < b) := fun a b => ⟨fun h => by
  rcases Nat.lt_trichotomy a b with h1 | h1 | h1
  · exact h1
  · subst h1; omega
  · have := vOf_lt hB h1; omega, vOf_lt hB⟩
 have inj : ∀ a b : Nat, (vOf B a = vOf B b ↔ a = b) := fun a b => ⟨fun h => by
  rcases Nat.lt_trichotomy a b with h1 | h1 | h1
  · have := vOf_lt hB h1; omega
  · exact h1
  · have := vOf_lt hB h1; omega, fun h => by rw [h]⟩
 have p1 := mono r q
 have p2 := mono q r
 have p3 := inj r q
 have p4 := mono 0 r
 have p5 := mono 0 q
 rw [z] at p4 p5
 rw [compare_int, compare_int]
 have e1 : (sgn s (vOf B r) < sgn t (vOf B q)) ↔ (sgn s r < sgn t q) := by
  unfold sgn; cases s <;> cases t <;> simp <;> omega
 have e2 : (sgn s (vOf B r) = sgn t (vOf B q)) ↔ (sgn s (r : Nat) = sgn t q) := by
  unfold sgn; cases s <;> cases t <;> simp <;> omega
 simp only [e1, e2]
theorem compare_scale (s t : Bool) (m n k : Nat) : compare (sgn s (m * 2 ^ k)) (sgn t (n * 2 ^ k)) = compare (sgn s m) (sgn t n) := by
 have hp : 0 < 2 ^ k := Nat.pow_pos (by omega)
 have a1 : (m * 2 ^ k < n * 2 ^ k ↔ m < n) := Nat.mul_lt_mul_right hp
 have a2 : (n * 2 ^ k < m * 2 ^ k ↔ n < m) := Nat.mul_lt_mul_right hp
 have a3 : (m * 2 ^ k = n * 2 ^ k ↔ m = n) := Nat.mul_left_inj (by omega)
 have a4 : (0 < m * 2 ^ k ↔ 0 < m) := by simp [hp]
 have a5 : (0 < n * 2 ^ k ↔ 0 < n) := by simp [hp]
 generalize m * 2 ^ k = x at *
 generalize n * 2 ^ k = y at *
 rw [compare_int, compare_int]
 have e1 : (sgn s x < sgn t y) ↔ (sgn s m < sgn t n) := by
  unfold sgn; cases s <;> cases t <;> simp <;> omega
 have e2 : (sgn s x = sgn t y) ↔ (sgn s m = sgn t n) := by
  unfold sgn; cases s <;> cases t <;> simp <;> omega
 simp only [e1, e2]
end Go.Proofs.YtmibndkofoldkaaGreatDoor
namespace Go.Proofs.YtmibndkofoldkaaGreatDoor
set_option linter.unusedVariables false
set_option linter.unusedSimpArgs false
set_option linter.constructorNameAsVariable false
open Ieee
theorem sw : double.signWeight = 9223372036854775808 := by decide
theorem bn : double.binade = 4503599627370496 := by decide
theorem ir : double.infRung = 9218868437227405312 := by decide
theorem lp : double.leastPlace = -1074 := by decide
theorem neg_read (b : Nat) (hb : b < 18446744073709551616) : (b / 9223372036854775808 % 2 == 1) = neg63 b := by
 unfold neg63
 by_cases h : 9223372036854775808 ≤ b
 · have : b / 9223372036854775808 = 1 := by omega
   rw [this]; simp [h]
 · have : b / 9223372036854775808 = 0 := by omega
   rw [this]; simp [h]
theorem read_fin (b : Nat) (hb : b < 18446744073709551616) (h : rung b < 9218868437227405312) :
    ∃ (m a : Nat), double.read b = .number (neg63 b) m (-1074 + (a : Int)) ∧ m * 2 ^ a = vOf 4503599627370496 (rung b) ∧ (m = 0 ↔ rung b = 0) := by
 unfold Format.read
 rw [sw, bn, ir, lp, neg_read b hb]
 unfold rung at h ⊢
 generalize b % 9223372036854775808 = r at h ⊢
 simp only
 by_cases h1 : r < 4503599627370496
 · rw [if_pos h1]
   exact ⟨r, 0, by simp, by simp [vOf, h1], Iff.rfl⟩
 · rw [if_neg h1, if_pos h]
   exact ⟨4503599627370496 + r % 4503599627370496, r / 4503599627370496 - 1, rfl, by simp [vOf, h1], by omega⟩
theorem read_inf (b : Nat) (hb : b < 18446744073709551616) (h : rung b = 9218868437227405312) : double.read b = .infinity (neg63 b) := by
 unfold Format.read
 rw [sw, bn, ir, lp, neg_read b hb]
 unfold rung at h
 simp only
 rw [h]; rfl
theorem read_nan (b : Nat) (hb : b < 18446744073709551616) (h : isNan b) : ∃ t, double.read b = .nan (neg63 b) t := by
 unfold Format.read
 rw [sw, bn, ir, lp, neg_read b hb]
 unfold isNan rung at h
 simp only
 rw [if_neg (by omega), if_neg (by omega), if_neg (by omega)]
 exact ⟨_, rfl⟩
theorem order_fin (s t : Bool) (m n a c : Nat) : Datum.order (.number s m (-1074 + (a : Int))) (.number t n (-1074 + (c : Int))) = some (compare (sgn s (m * 2 ^ a)) (sgn t (n * 2 ^ c))) := by
 simp only [Datum.order]
 rw [signed_eq, signed_eq]
 rcases Nat.le_total a c with h | h
 · have e1 : min (-1074 + (a : Int)) (-1074 + (c : Int)) = -1074 + (a : Int) := by omega
   rw [e1]
   have e2 : (-1074 + (a : Int) - (-1074 + (a : Int))).toNat = 0 := by omega
   have e3 : (-1074 + (c : Int) - (-1074 + (a : Int))).toNat = c - a := by omega
   rw [e2, e3]
   have := compare_scale s t (m * 2 ^ 0) (n * 2 ^ (c - a)) a
   rw [← this]
   have e4 : n * 2 ^ (c - a) * 2 ^ a = n * 2 ^ c := by rw [Nat.mul_assoc, ← Nat.pow_add, Nat.sub_add_cancel h]
   rw [e4]; simp
 · have e1 : min (-1074 + (a : Int)) (-1074 + (c : Int)) = -1074 + (c : Int) := by omega
   rw [e1]
   have e2 : (-1074 + (c : Int) - (-1074 + (c : Int))).toNat = 0 := by omega
   have e3 : (-1074 + (a : Int) - (-1074 + (c : Int))).toNat = a - c := by omega
   rw [e2, e3]
   have := compare_scale s t (m * 2 ^ (a - c)) (n * 2 ^ 0) c
   rw [← this]
   have e4 : m * 2 ^ (a - c) * 2 ^ c = m * 2 ^ a := by rw [Nat.mul_assoc, ← Nat.pow_add, Nat.sub_add_cancel h]
   rw [e4]; simp
theorem key_sgn (b : Nat) : key b = sgn (neg63 b) (rung b) := by unfold key sgn; rfl
theorem order_key {x y : Nat} (hx : x < 18446744073709551616) (hy : y < 18446744073709551616) (nx : ¬ isNan x) (ny : ¬ isNan y) : double.order x y = some (compare (key x) (key y)) := by
 have kx := key_sgn x
 have ky := key_sgn y
 have rx : rung x ≤ 9218868437227405312 := by unfold isNan at nx; omega
 have ry : rung y ≤ 9218868437227405312 := by unfold isNan at ny; omega
 unfold Format.order
 by_cases ix : rung x = 9218868437227405312
 · rw [read_inf x hx ix]
   by_cases iy : rung y = 9218868437227405312
   · rw [read_inf y hy iy]
     rw [kx, ky, ix, iy]
     simp only [Datum.order]
     cases neg63 x <;> cases neg63 y <;> rfl
   · obtain ⟨m, a, e, _, _⟩ := read_fin y hy (by omega)
     rw [e, kx, ky, ix]
     simp only [Datum.order]
     rw [compare_int]
     unfold sgn
     cases neg63 x <;> cases neg63 y <;> simp <;> (repeat (first | rfl | omega | (split)))
 · obtain ⟨m, a, e, hm, _⟩ := read_fin x hx (by omega)
   by_cases iy : rung y = 9218868437227405312
   · rw [e, read_inf y hy iy, kx, ky, iy]
     simp only [Datum.order]
     rw [compare_int]
     unfold sgn
     cases neg63 x <;> cases neg63 y <;> simp <;> (repeat (first | rfl | omega | (split)))
   · obtain ⟨n, c, e', hn, _⟩ := read_fin y hy (by omega)
     rw [e, e', order_fin, hm, hn, compare_sgn (by decide), kx, ky]
theorem order_nan {x y : Nat} (hx : x < 18446744073709551616) (hy : y < 18446744073709551616) (h : isNan x ∨ isNan y) : double.order x y = none := by
 unfold Format.order
 rcases h with h | h
 · obtain ⟨t, e⟩ := read_nan x hx h
   rw [e]; rfl
 · obtain ⟨t, e⟩ := read_nan y hy h
   rw [e]
   cases double.read x <;> rfl
end Go.Proofs.YtmibndkofoldkaaGreatDoor
namespace Go.Proofs.YtmibndkofoldkaaGreatDoor
set_option linter.unusedVariables false
set_option linter.unusedSimpArgs false
set_option linter.constructorNameAsVariable false
open Go.RowKit Ieee
def nanB (b : Nat) : Bool := decide (9218868437227405312 < rung b)
theorem nanB_iff (b : Nat) : nanB b = true ↔ isNan b := by unfold nanB isNan; simp
theorem nanB_not (b : Nat) : nanB b = false ↔ ¬ isNan b := by unfold nanB isNan; simp
theorem run_fromb (n : Int) (w : World) : (callFunc 163 #[.int .u64 n]).run Tryz.prog w = .ok (.value (.float .f64 n.toNat)) w := by kernel_rfl
theorem ord_nan {x y : Nat} (hx : x < 18446744073709551616) (hy : y < 18446744073709551616) (h : nanB x = true ∨ nanB y = true) : FloatKind.f64.format.order x y = none :=
 order_nan hx hy (h.imp (nanB_iff _).1 (nanB_iff _).1)
theorem ord_lt {x y : Nat} (hx : x < 18446744073709551616) (hy : y < 18446744073709551616) (nx : nanB x = false) (ny : nanB y = false) (h : key x < key y) : FloatKind.f64.format.order x y = some .lt := by
 show double.order x y = _
 rw [order_key hx hy ((nanB_not _).1 nx) ((nanB_not _).1 ny), compare_int, if_pos h]
theorem ord_gt {x y : Nat} (hx : x < 18446744073709551616) (hy : y < 18446744073709551616) (nx : nanB x = false) (ny : nanB y = false) (h : key y < key x) : FloatKind.f64.format.order x y = some .gt := by
 show double.order x y = _
 rw [order_key hx hy ((nanB_not _).1 nx) ((nanB_not _).1 ny), compare_int, if_neg (by omega), if_neg (by omega)]
theorem ord_eq {x y : Nat} (hx : x < 18446744073709551616) (hy : y < 18446744073709551616) (nx : nanB x = false) (ny : nanB y = false) (h : key x = key y) : FloatKind.f64.format.order x y = some .eq := by
 show double.order x y = _
 rw [order_key hx hy ((nanB_not _).1 nx) ((nanB_not _).1 ny), compare_int, if_neg (by omega), if_pos h]
theorem isnan_any (x : Nat) (hx : x < 18446744073709551616) (w : World) : Calls Tryz.prog 193 #[.float .f64 x] w fun e w' => e = .returned (.bool (nanB x)) ∧ w = w' := by
 cases hn : nanB x
 · have ho := ord_eq hx hx hn hn rfl
   go_enter Tryz.func193, Tryz.ntmps193
   go_wp2_with fail
   go_ret
   exact ⟨rfl, rfl⟩
 · have ho := ord_nan hx hx (Or.inl hn)
   go_enter Tryz.func193, Tryz.ntmps193
   go_wp2_with fail
   go_ret
   exact ⟨rfl, rfl⟩
end Go.Proofs.YtmibndkofoldkaaGreatDoor
namespace Go.Proofs.YtmibndkofoldkaaGreatDoor
set_option linter.unusedVariables false
set_option linter.unusedSimpArgs false
set_option linter.constructorNameAsVariable false
open Go.RowKit Ieee
theorem z64 : 0 < 18446744073709551616 := Nat.succ_pos _
end Go.Proofs.YtmibndkofoldkaaGreatDoor
namespace Go.Proofs.YtmibndkofoldkaaGreatDoor
set_option linter.unusedVariables false
set_option linter.unusedSimpArgs false
set_option linter.constructorNameAsVariable false
open Go.RowKit Ieee
theorem nan_any (w : World) : Calls Tryz.prog 105 #[] w fun e w' => e = .returned (.float .f64 9221120237041090561) ∧ w = w' := by
 have hf := run_fromb 9221120237041090561
 go_enter Tryz.func105, Tryz.ntmps105
 go_wp2_with fail
 go_ret
 exact ⟨rfl, rfl⟩
def Gives_l18 (op : BinOp) (x y r : Nat) : Prop := r < 18446744073709551616 ∧ match floatBits op .f64 x y with | some q => r = q | none => nanB r = true
theorem drawn_nan (t : Nat) : (t % 2) * 9223372036854775808 + 9218868437227405312 + 1 + (t / 2) % 4503599627370495 < 18446744073709551616 ∧ nanB ((t % 2) * 9223372036854775808 + 9218868437227405312 + 1 + (t / 2) % 4503599627370495) = true := by
 have h1 := Nat.mod_lt t (show 0 < 2 by omega)
 have h2 := Nat.mod_lt (t / 2) (show 0 < 4503599627370495 by omega)
 generalize t % 2 = a at *
 generalize t / 2 % 4503599627370495 = c at *
 refine ⟨by omega, ?_⟩
 unfold nanB rung
 refine decide_eq_true ?_
 rcases (show a = 0 ∨ a = 1 by omega) with rfl | rfl <;> omega
theorem run_flt {P : Program} (op : BinOp) (hop : op = .add ∨ op = .sub ∨ op = .mul ∨ op = .quo) (t : TypeId) (x y : Nat) (w : World) :
    ∃ r w', (binOp op t (.float .f64 x) (.float .f64 y)).run P w = .ok (.float .f64 r) w' ∧ Gives_l18 op x y r ∧ Below w.heap.size w w' := by
 cases h : floatBits op .f64 x y with
 | some q =>
  refine ⟨q, w, run_float_arith w op t .f64 x y q h, ⟨?_, by rw [h]⟩, Below.refl _ _⟩
  have := floatBits_wf h
  simpa [Lit.wf] using this
 | none =>
  have key := drawn_nan (w.tape w.drawn (.nanBits .f64 x y))
  refine ⟨_, w.drew, ?_, ⟨key.1, by rw [h]; exact key.2⟩, (Below.refl _ _).drew⟩
  unfold floatBits at h
  rcases hop with rfl | rfl | rfl | rfl <;> simp only at h <;> simp [binOp, Op.floatArith, h, choose] <;> rfl
end Go.Proofs.YtmibndkofoldkaaGreatDoor
namespace Go.Proofs.YtmibndkofoldkaaGreatDoor
set_option linter.unusedVariables false
set_option linter.unusedSimpArgs false
set_option linter.constructorNameAsVariable false
open Ieee
theorem word_parts (s : Bool) (r : Nat) (h : r < 9223372036854775808) : double.word s r < 18446744073709551616 ∧ rung (double.word s r) = r ∧ neg63 (double.word s r) = s := by
 unfold Format.word rung neg63
 rw [sw]
 cases s
 · simp; omega
 · simp; omega
end Go.Proofs.YtmibndkofoldkaaGreatDoor
namespace Go.Proofs.YtmibndkofoldkaaGreatDoor
set_option linter.unusedVariables false
set_option linter.unusedSimpArgs false
set_option linter.constructorNameAsVariable false
open Ieee
def finB (x : Nat) : Bool := decide (rung x < 9218868437227405312)
theorem read_of_nan {x : Nat} (hx : x < 18446744073709551616) (h : nanB x = true) : ∃ t, double.read x = .nan (neg63 x) t := read_nan x hx ((nanB_iff x).1 h)
theorem fin_or (x : Nat) : finB x = true ∨ rung x = 9218868437227405312 ∨ nanB x = true := by
 unfold finB nanB
 rcases Nat.lt_trichotomy (rung x) 9218868437227405312 with h | h | h
 · left; exact decide_eq_true h
 · right; left; exact h
 · right; right; exact decide_eq_true h
theorem cut_exact (s : Bool) (m a : Nat) : Toward.even.cut s (m * 2 ^ a) a = m := by
 unfold Toward.cut
 have hp : 0 < 2 ^ a := Nat.pow_pos (by omega)
 by_cases hm : m = 0
 · subst hm
   simp only [Nat.zero_mul, Nat.zero_div, Nat.zero_mod]
   have : 0 < 1 <<< min a (Nat.log2 0 + 2) := by rw [Nat.shiftLeft_eq]; simp; exact Nat.pow_pos (by omega)
   simp
 · have hl : a ≤ (m * 2 ^ a).log2 + 2 := by
    have : a ≤ (m * 2 ^ a).log2 := (Nat.le_log2 (by have := Nat.mul_pos (Nat.pos_of_ne_zero hm) hp; omega)).2 (Nat.le_mul_of_pos_left _ (by omega))
    omega
   rw [Nat.min_eq_left hl, Nat.shiftLeft_eq, Nat.one_mul]
   simp only
   rw [Nat.mul_div_cancel _ hp, Nat.mul_mod_left]
   simp
theorem sgn_dec (s : Bool) {v : Nat} (h : 0 < v) : decide (sgn s v < 0) = s := by unfold sgn; cases s <;> simp <;> omega
theorem sgn_abs (s : Bool) (v : Nat) : (sgn s v).natAbs = v := by unfold sgn; cases s <;> simp
end Go.Proofs.YtmibndkofoldkaaGreatDoor
namespace Go.Proofs.YtmibndkofoldkaaGreatDoor
set_option linter.unusedVariables false
set_option linter.unusedSimpArgs false
set_option linter.constructorNameAsVariable false
open Ieee
def kept (s : Bool) (m : Nat) : Nat := Toward.even.cut s (m * 2 ^ (52 - m.log2)) (m.log2 - 52)
theorem cut_even (s : Bool) (n d : Nat) (h : d ≤ n.log2 + 2) : Toward.even.cut s n d = n / 2 ^ d + (decide (2 ^ d < 2 * (n % 2 ^ d)) || (2 ^ d == 2 * (n % 2 ^ d) && n / 2 ^ d % 2 == 1)).toNat := by
 unfold Toward.cut
 rw [Nat.min_eq_left h, Nat.shiftLeft_eq, Nat.one_mul]
theorem even_mono {g l r l' r' : Nat} (h : l < l' ∨ (l = l' ∧ r ≤ r')) :
    l + (decide (g < 2 * r) || (g == 2 * r && l % 2 == 1)).toNat ≤ l' + (decide (g < 2 * r') || (g == 2 * r' && l' % 2 == 1)).toNat := by
 rcases h with h | ⟨rfl, h⟩
 · have : (decide (g < 2 * r) || (g == 2 * r && l % 2 == 1)).toNat ≤ 1 := Bool.toNat_le _
   omega
 · apply Nat.add_le_add_left
   by_cases h1 : g < 2 * r
   · rw [decide_eq_true h1, decide_eq_true (show g < 2 * r' by omega)]; simp
   · rw [decide_eq_false h1]
     by_cases h2 : g = 2 * r
     · by_cases h3 : g < 2 * r'
       · rw [decide_eq_true h3]; simp; exact Bool.toNat_le _
       · have : r = r' := by omega
         subst this
         rw [decide_eq_false h3]; exact Nat.le_refl _
     · have : (g == 2 * r) = false := by simp [h2]
       rw [this]; simp
theorem kept_bounds (s : Bool) (m : Nat) (hm : m ≠ 0) : 4503599627370496 ≤ kept s m ∧ kept s m ≤ 9007199254740992 := by
 have hlo : 2 ^ m.log2 ≤ m := Nat.log2_self_le hm
 have hhi : m < 2 ^ (m.log2 + 1) := Nat.lt_log2_self
 unfold kept
 rcases Nat.le_total m.log2 52 with h | h
 · have e : m.log2 - 52 = 0 := by omega
   rw [e]
   have := cut_exact s (m * 2 ^ (52 - m.log2)) 0
   rw [Nat.pow_zero, Nat.mul_one] at this
   rw [this]
   have hp : 0 < 2 ^ (52 - m.log2) := Nat.pow_pos (by omega)
   have e1 : 2 ^ m.log2 * 2 ^ (52 - m.log2) = 4503599627370496 := by rw [← Nat.pow_add, show m.log2 + (52 - m.log2) = 52 by omega]
   have e2 : 2 ^ (m.log2 + 1) * 2 ^ (52 - m.log2) = 9007199254740992 := by rw [← Nat.pow_add, show m.log2 + 1 + (52 - m.log2) = 53 by omega]
   have a1 := Nat.mul_le_mul_right (2 ^ (52 - m.log2)) hlo
   have a2 := Nat.mul_lt_mul_of_pos_right hhi hp
   omega
 · have e : 52 - m.log2 = 0 := by omega
   rw [e, Nat.pow_zero, Nat.mul_one, cut_even s m _ (by omega)]
   have hp : 0 < 2 ^ (m.log2 - 52) := Nat.pow_pos (by omega)
   have e1 : 2 ^ m.log2 = 4503599627370496 * 2 ^ (m.log2 - 52) := by rw [show (4503599627370496 : Nat) = 2 ^ 52 by rfl, ← Nat.pow_add, show 52 + (m.log2 - 52) = m.log2 by omega]
   have e2 : 2 ^ (m.log2 + 1) = 9007199254740992 * 2 ^ (m.log2 - 52) := by rw [show (9007199254740992 : Nat) = 2 ^ 53 by rfl, ← Nat.pow_add, show 53 + (m.log2 - 52) = m.log2 + 1 by omega]
   have d1 : 4503599627370496 ≤ m / 2 ^ (m.log2 - 52) := (Nat.le_div_iff_mul_le hp).2 (by omega)
   have d2 : m / 2 ^ (m.log2 - 52) < 9007199254740992 := Nat.div_lt_of_lt_mul (by rw [Nat.mul_comm]; omega)
   have := Bool.toNat_le (decide (2 ^ (m.log2 - 52) < 2 * (m % 2 ^ (m.log2 - 52))) || (2 ^ (m.log2 - 52) == 2 * (m % 2 ^ (m.log2 - 52)) && m / 2 ^ (m.log2 - 52) % 2 == 1))
   omega
theorem kept_mono (s t : Bool) {m n : Nat} (hm : m ≠ 0) (hl : m.log2 = n.log2) (h : m ≤ n) : kept s m ≤ kept t n := by
 have hn : n ≠ 0 := by omega
 unfold kept
 rw [← hl]
 rcases Nat.le_total m.log2 52 with h1 | h1
 · have e : m.log2 - 52 = 0 := by omega
   rw [e]
   have a1 := cut_exact s (m * 2 ^ (52 - m.log2)) 0
   have a2 := cut_exact t (n * 2 ^ (52 - m.log2)) 0
   rw [Nat.pow_zero, Nat.mul_one] at a1 a2
   rw [a1, a2]
   exact Nat.mul_le_mul_right _ h
 · have e : 52 - m.log2 = 0 := by omega
   rw [e, Nat.pow_zero, Nat.mul_one, Nat.mul_one, cut_even s m _ (by omega), cut_even t n _ (by omega)]
   refine even_mono ?_
   have hp : 0 < 2 ^ (m.log2 - 52) := Nat.pow_pos (by omega)
   generalize 2 ^ (m.log2 - 52) = g at hp
   have hd := Nat.div_le_div_right (c := g) h
   rcases Nat.lt_or_ge (m / g) (n / g) with h2 | h2
   · exact .inl h2
   · have e2 : m / g = n / g := by omega
     refine .inr ⟨e2, ?_⟩
     have b1 := Nat.div_add_mod m g
     have b2 := Nat.div_add_mod n g
     rw [e2] at b1
     omega
def rungW (s : Bool) (m : Nat) : Nat := if m = 0 then 0 else min ((m.log2 + 1022) * 4503599627370496 + kept s m) 9218868437227405312
theorem nearest_whole (s : Bool) (m : Nat) : double.nearest s m 0 = double.word s (rungW s m) := by
 unfold Format.nearest rungW
 by_cases hm : m = 0
 · rw [if_pos hm, if_pos hm]
 · rw [if_neg hm, if_neg hm, lp, bn, ir]
   have hfb : (double.fractionBits : Int) = 52 := rfl
   rw [hfb]
   simp only
   have e : max ((0 : Int) + ((m.log2 : Nat) : Int) - 52) (-1074) = (m.log2 : Int) - 52 := by omega
   rw [e]
   have e1 : ((m.log2 : Int) - 52 - -1074).toNat = m.log2 + 1022 := by omega
   have e2 : (0 - ((m.log2 : Int) - 52)).toNat = 52 - m.log2 := by omega
   have e3 : ((m.log2 : Int) - 52 - 0).toNat = m.log2 - 52 := by omega
   rw [e1, e2, e3, Nat.shiftLeft_eq]
   rfl
theorem rungW_le (s : Bool) (m : Nat) : rungW s m ≤ 9218868437227405312 := by unfold rungW; split <;> omega
theorem rungW_mono (s t : Bool) {m n : Nat} (h : m ≤ n) : rungW s m ≤ rungW t n := by
 unfold rungW
 by_cases hm : m = 0
 · rw [if_pos hm]; exact Nat.zero_le _
 · rw [if_neg hm, if_neg (by omega)]
   have hn : n ≠ 0 := by omega
   have k1 := kept_bounds s m hm
   have k2 := kept_bounds t n hn
   have hl : m.log2 ≤ n.log2 := (Nat.le_log2 hn).2 (Nat.le_trans (Nat.log2_self_le hm) h)
   rcases Nat.lt_or_ge m.log2 n.log2 with h1 | h1
   · omega
   · have e : m.log2 = n.log2 := by omega
     have := kept_mono s t hm e h
     rw [e]; omega
theorem key_int (a : Int) : floatOfInt .f64 a < 18446744073709551616 ∧ nanB (floatOfInt .f64 a) = false ∧ rung (floatOfInt .f64 a) = rungW (decide (a < 0)) a.natAbs ∧ key (floatOfInt .f64 a) = sgn (decide (a < 0)) (rungW (decide (a < 0)) a.natAbs) := by
 have e : floatOfInt .f64 a = double.word (decide (a < 0)) (rungW (decide (a < 0)) a.natAbs) := nearest_whole _ _
 have hb := rungW_le (decide (a < 0)) a.natAbs
 obtain ⟨w1, w2, w3⟩ := word_parts (decide (a < 0)) (rungW (decide (a < 0)) a.natAbs) (by omega)
 rw [e]
 refine ⟨w1, decide_eq_false (by rw [w2]; omega), w2, ?_⟩
 rw [key_sgn, w2, w3]
theorem key_mono {a b : Int} (h : a ≤ b) : key (floatOfInt .f64 a) ≤ key (floatOfInt .f64 b) := by
 rw [(key_int a).2.2.2, (key_int b).2.2.2]
 unfold sgn
 by_cases ha : a < 0
 · by_cases hb : b < 0
   · rw [decide_eq_true ha, decide_eq_true hb]
     have := rungW_mono true true (show b.natAbs ≤ a.natAbs by omega)
     simp; omega
   · rw [decide_eq_true ha, decide_eq_false hb]
     simp
 · rw [decide_eq_false ha, decide_eq_false (show ¬ b < 0 by omega)]
   have := rungW_mono false false (show a.natAbs ≤ b.natAbs by omega)
   simp; omega
end Go.Proofs.YtmibndkofoldkaaGreatDoor
namespace Go.Proofs.YtmibndkofoldkaaGreatDoor
set_option linter.unusedVariables false
set_option linter.unusedSimpArgs false
set_option linter.constructorNameAsVariable false
open Ieee
theorem read_fin2 (b : Nat) (hb : b < 18446744073709551616) (h : rung b < 9218868437227405312) :
    ∃ (m a : Nat), double.read b = .number (neg63 b) m (-1074 + (a : Int)) ∧ m * 2 ^ a = vOf 4503599627370496 (rung b) ∧ m < 9007199254740992 := by
 unfold Format.read
 rw [sw, bn, ir, lp, neg_read b hb]
 unfold rung at h ⊢
 generalize b % 9223372036854775808 = r at h ⊢
 simp only
 by_cases h1 : r < 4503599627370496
 · rw [if_pos h1]
   exact ⟨r, 0, by simp, by simp [vOf, h1], by omega⟩
 · rw [if_neg h1, if_pos h]
   exact ⟨4503599627370496 + r % 4503599627370496, r / 4503599627370496 - 1, rfl, by simp [vOf, h1], by omega⟩
theorem cut_way (way : Toward) (s : Bool) (m a : Nat) : way.cut s (m * 2 ^ a) a = m := by
 unfold Toward.cut
 have hp : 0 < 2 ^ a := Nat.pow_pos (by omega)
 by_cases hm : m = 0
 · subst hm
   simp only [Nat.zero_mul, Nat.zero_div, Nat.zero_mod]
   cases way <;> simp
 · have hl : a ≤ (m * 2 ^ a).log2 + 2 := by
    have : a ≤ (m * 2 ^ a).log2 := (Nat.le_log2 (by have := Nat.mul_pos (Nat.pos_of_ne_zero hm) hp; omega)).2 (Nat.le_mul_of_pos_left _ (by omega))
    omega
   rw [Nat.min_eq_left hl, Nat.shiftLeft_eq, Nat.one_mul]
   simp only
   rw [Nat.mul_div_cancel _ hp, Nat.mul_mod_left]
   cases way <;> simp
theorem mul_pow_cancel {a b k : Nat} (h : a * 2 ^ k = b * 2 ^ k) : a = b := Nat.eq_of_mul_eq_mul_right (Nat.pow_pos (by omega)) h
theorem pow_shift (M a E : Nat) (h : E ≤ a) : M * 2 ^ (a - E) * 2 ^ E = M * 2 ^ a := by rw [Nat.mul_assoc, ← Nat.pow_add, Nat.sub_add_cancel h]
theorem cut_value (way : Toward) (s : Bool) (M a c : Nat) (h : M * 2 ^ a = c * 2 ^ 1074) : way.cut s (M <<< (-1074 + (a : Int)).toNat) (-(-1074 + (a : Int))).toNat = c := by
 rw [Nat.shiftLeft_eq]
 rcases Nat.le_total 1074 a with h1 | h1
 · have e1 : (-1074 + (a : Int)).toNat = a - 1074 := by omega
   have e2 : (-(-1074 + (a : Int))).toNat = 0 := by omega
   rw [e1, e2]
   have hc : M * 2 ^ (a - 1074) = c := mul_pow_cancel (k := 1074) ((pow_shift M a 1074 h1).trans h)
   rw [hc]
   have := cut_way way s c 0
   rwa [Nat.pow_zero, Nat.mul_one] at this
 · have e1 : (-1074 + (a : Int)).toNat = 0 := by omega
   have e2 : (-(-1074 + (a : Int))).toNat = 1074 - a := by omega
   rw [e1, e2, Nat.pow_zero, Nat.mul_one]
   have hc : M = c * 2 ^ (1074 - a) := by
    refine mul_pow_cancel (k := a) ?_
    rw [h, Nat.mul_assoc, ← Nat.pow_add, Nat.sub_add_cancel h1]
   rw [hc]
   exact cut_way way s c _
theorem vOf_parts {B k : Nat} (hB : 0 < B) (f : Nat) (hf : f < B) : vOf B (B * (k + 1) + f) = (B + f) * 2 ^ k := by
 unfold vOf
 have h : ¬ B * (k + 1) + f < B := by rw [Nat.mul_add, Nat.mul_one]; omega
 have e1 : (B * (k + 1) + f) / B = k + 1 := by rw [Nat.mul_add_div hB, Nat.div_eq_of_lt hf, Nat.add_zero]
 have e2 : (B * (k + 1) + f) % B = f := by rw [Nat.mul_add_mod, Nat.mod_eq_of_lt hf]
 rw [if_neg h, e1, e2, Nat.add_sub_cancel]
theorem whole_parts {B k q : Nat} (hB : 0 < B) (h1 : B ≤ q) (h2 : q ≤ 2 * B) : vOf B (k * B + q) = q * 2 ^ k := by
 rcases Nat.lt_or_ge q (2 * B) with h | h
 · have e : k * B + q = B * (k + 1) + (q - B) := by rw [Nat.mul_add, Nat.mul_one, Nat.mul_comm]; omega
   rw [e, vOf_parts hB _ (by omega), Nat.add_sub_cancel' h1]
 · have hq : q = 2 * B := by omega
   have e : k * B + q = B * (k + 1 + 1) + 0 := by rw [Nat.mul_add, Nat.mul_add, Nat.mul_one, Nat.mul_comm]; omega
   rw [e, vOf_parts hB _ hB, hq, Nat.pow_succ, Nat.add_zero, Nat.mul_comm (2 ^ k) 2, ← Nat.mul_assoc, Nat.mul_comm B 2]
theorem whole_small {l q I B : Nat} (hl : l ≤ 900) (hB : B = 4503599627370496) (hI : I = 9218868437227405312) (hq : q ≤ 2 * B) : (l + 1022) * B + q < I := by
 have : (l + 1022) * B ≤ 1922 * B := Nat.mul_le_mul_right _ (by omega)
 omega
theorem whole_val (s : Bool) {m : Nat} (hm : m ≠ 0) (hl : m.log2 ≤ 900) : rungW s m < 9218868437227405312 ∧ vOf 4503599627370496 (rungW s m) = kept s m * 2 ^ (m.log2 + 1022) := by
 have k := kept_bounds s m hm
 have h := whole_small (q := kept s m) hl rfl rfl (by omega)
 unfold rungW
 rw [if_neg hm, Nat.min_eq_left (Nat.le_of_lt h)]
 exact ⟨h, whole_parts (by omega) k.1 (by omega)⟩
theorem kept_low (s : Bool) {m : Nat} (hl : m.log2 ≤ 52) : kept s m * 2 ^ (m.log2 + 1022) = m * 2 ^ 1074 := by
 unfold kept
 rw [show m.log2 - 52 = 0 by omega]
 have a1 := cut_way .even s (m * 2 ^ (52 - m.log2)) 0
 rw [Nat.pow_zero, Nat.mul_one] at a1
 rw [a1, Nat.mul_assoc, ← Nat.pow_add, show 52 - m.log2 + (m.log2 + 1022) = 1074 by omega]
theorem kept_exact (s : Bool) {m q k : Nat} (hm : m ≠ 0) (hq : q < 9007199254740992) (h : m = q * 2 ^ k) : kept s m * 2 ^ (m.log2 + 1022) = m * 2 ^ 1074 := by
 rcases Nat.lt_or_ge 52 m.log2 with h1 | h1
 · have hlt : m < 2 ^ (53 + k) := by
    rw [h, Nat.pow_add]
    exact Nat.mul_lt_mul_of_pos_right hq (Nat.pow_pos (by omega))
   have hl : m.log2 < 53 + k := (Nat.log2_lt hm).2 hlt
   have hk : m = q * 2 ^ (k - (m.log2 - 52)) * 2 ^ (m.log2 - 52) := by
    rw [Nat.mul_assoc, ← Nat.pow_add, Nat.sub_add_cancel (by omega)]; exact h
   have hkept : kept s m = q * 2 ^ (k - (m.log2 - 52)) := by
    unfold kept
    rw [show 52 - m.log2 = 0 by omega, Nat.pow_zero, Nat.mul_one]
    have := cut_way .even s (q * 2 ^ (k - (m.log2 - 52))) (m.log2 - 52)
    rwa [← hk] at this
   rw [hkept]
   have e : 2 ^ (m.log2 + 1022) = 2 ^ (m.log2 - 52) * 2 ^ 1074 := (congrArg (2 ^ ·) (show m.log2 + 1022 = m.log2 - 52 + 1074 by omega)).trans (Nat.pow_add 2 _ 1074)
   rw [e, ← Nat.mul_assoc, ← hk]
 · exact kept_low s h1
theorem ceil_fin {x : Nat} (hx : x < 18446744073709551616) (h : finB x = true) : ∃ c q k, double.write ((double.read x).integral .up) = double.word (neg63 x) (rungW (neg63 x) c) ∧ c = q * 2 ^ k ∧ q < 9007199254740992 ∧
    (∀ d, vOf 4503599627370496 (rung x) = d * 2 ^ 1074 → c = d) := by
 obtain ⟨m, a, e, hv, hm⟩ := read_fin2 x hx (of_decide_eq_true h)
 rw [e]
 simp only [Datum.integral, Format.write]
 rw [nearest_whole]
 have hval : ∀ d, vOf 4503599627370496 (rung x) = d * 2 ^ 1074 → Toward.up.cut (neg63 x) (m <<< (-1074 + (a : Int)).toNat) (-(-1074 + (a : Int))).toNat = d := fun d hd => cut_value .up (neg63 x) m a d (by rw [hv, hd])
 rcases Nat.lt_or_ge a 1074 with h1 | h1
 · have e1 : (-1074 + (a : Int)).toNat = 0 := by omega
   refine ⟨_, Toward.up.cut (neg63 x) (m <<< (-1074 + (a : Int)).toNat) (-(-1074 + (a : Int))).toNat, 0, rfl, by simp, ?_, hval⟩
   rw [e1, Nat.shiftLeft_zero]
   have e2 : (-(-1074 + (a : Int))).toNat = 1074 - a := by omega
   rw [e2]
   unfold Toward.cut
   have hg : 2 ≤ 1 <<< min (1074 - a) (m.log2 + 2) := by
    rw [Nat.shiftLeft_eq, Nat.one_mul]
    have : 2 ^ 1 ≤ 2 ^ min (1074 - a) (m.log2 + 2) := Nat.pow_le_pow_right (by omega) (by omega)
    simpa using this
   generalize 1 <<< min (1074 - a) (m.log2 + 2) = g at hg
   have hd : m / g ≤ m / 2 := Nat.div_le_div_left hg (by omega)
   simp only
   have := Bool.toNat_le (!neg63 x && m % g != 0)
   omega
 · have e1 : (-1074 + (a : Int)).toNat = a - 1074 := by omega
   refine ⟨_, m, a - 1074, rfl, ?_, hm, hval⟩
   have := cut_value .up (neg63 x) m a (m * 2 ^ (a - 1074)) (pow_shift m a 1074 h1).symm
   exact this
theorem int_of (s : Bool) {c q k : Nat} (hq : q < 9007199254740992) (hc : c = q * 2 ^ k) (hl : c.log2 ≤ 900) : (double.read (double.word s (rungW s c))).toInt .zero = some (sgn s c) := by
 have hb := rungW_le s c
 obtain ⟨w1, w2, w3⟩ := word_parts s (rungW s c) (by omega)
 by_cases h0 : c = 0
 · rw [h0]
   cases s <;> decide +kernel
 · obtain ⟨v1, v2⟩ := whole_val s h0 hl
   obtain ⟨M, a, e, hv, hm⟩ := read_fin2 _ w1 (by rw [w2]; exact v1)
   rw [w2, v2, kept_exact s h0 hq hc] at hv
   rw [e, w3]
   have hcut := cut_value .zero s M a c hv
   simp only [Datum.toInt, Datum.integral, hcut]
   rw [signed_eq, Nat.pow_zero, Nat.mul_one]
theorem key_sgn_word (s : Bool) (c : Nat) : double.word s (rungW s c) < 18446744073709551616 ∧ nanB (double.word s (rungW s c)) = false ∧ key (double.word s (rungW s c)) = sgn s (rungW s c) := by
 have hb := rungW_le s c
 obtain ⟨w1, w2, w3⟩ := word_parts s (rungW s c) (by omega)
 exact ⟨w1, decide_eq_false (by rw [w2]; omega), by rw [key_sgn, w2, w3]⟩
theorem rungW_sign (s t : Bool) (m : Nat) : rungW s m = rungW t m := Nat.le_antisymm (rungW_mono s t (Nat.le_refl _)) (rungW_mono t s (Nat.le_refl _))
theorem key_whole (s : Bool) (c : Nat) : key (double.word s (rungW s c)) = key (floatOfInt .f64 (sgn s c)) := by
 rw [(key_sgn_word s c).2.2, (key_int _).2.2.2, sgn_abs, rungW_sign (decide (sgn s c < 0)) s]
 by_cases h0 : c = 0
 · rw [h0]
   have : rungW s 0 = 0 := by unfold rungW; rw [if_pos rfl]
   rw [this]; unfold sgn; simp
 · rw [sgn_dec s (by omega)]
end Go.Proofs.YtmibndkofoldkaaGreatDoor
namespace Go.Proofs.YtmibndkofoldkaaGreatDoor
set_option linter.unusedVariables false
set_option linter.unusedSimpArgs false
set_option linter.constructorNameAsVariable false
open Go.RowKit Ieee
def ceilN (x : Nat) : Nat := double.write ((double.read x).integral .up)
theorem run_arch (x : Nat) (hx : x < 18446744073709551616) (w : World) : ∃ u w', (callFunc 245 #[.float .f64 x]).run Tryz.prog w = .ok (.value (.float .f64 u)) w' ∧ (nanB x = false → u = ceilN x) ∧ Below w.heap.size w w' := by
 have e : (callFunc 245 #[.float .f64 x]).run Tryz.prog w = (do pure (Next.value (← Extern.MathFloor.toIntegral "math.archCeil" .up #[.float .f64 x])) : Sem Next).run Tryz.prog w := by kernel_rfl
 rw [e]
 conv in Extern.MathFloor.toIntegral _ _ _ => whnf
 have hd : FloatKind.f64.decode x = double.read x := rfl
 rw [hd]
 cases hn : nanB x
 · refine ⟨ceilN x, w, ?_, fun _ => rfl, Below.refl _ _⟩
   rcases fin_or x with h | h | h
   · obtain ⟨m, a, e, _, _⟩ := read_fin x hx (of_decide_eq_true h)
     unfold ceilN
     rw [e]
     simp [FloatKind.encode]
     rfl
   · have e := read_inf x hx h
     unfold ceilN
     rw [e]
     simp [FloatKind.encode]
     rfl
   · rw [hn] at h; cases h
 · obtain ⟨t, e⟩ := read_of_nan hx hn
   rw [e]
   simp only
   by_cases hq : FloatKind.f64.format.quiet t = t
   · rw [if_pos hq]
     exact ⟨x, w, by simp, (fun h => absurd h (by simp)), Below.refl _ _⟩
   · rw [if_neg hq]
     apply Exists.intro
     refine ⟨w.drew, ?_, ?_, ?_⟩
     · simp [choose]
       rfl
     · exact fun h => absurd h (by simp)
     · exact (Below.refl _ _).drew
def Ceils (x : Nat) (w : World) (e : Ending) (w' : World) : Prop := ∃ u, e = .returned (.float .f64 u) ∧ (nanB x = false → u = ceilN x) ∧ Below w.heap.size w w'
set_option maxRecDepth 100000 in
theorem ceil_any (x : Nat) (hx : x < 18446744073709551616) (w : World) : Calls Tryz.prog 227 #[.float .f64 x] w (Ceils x w) := by
 obtain ⟨u, w1, hrun, hu, hb⟩ := run_arch x hx w
 have HU := Lib.hid hu
 clear hu hx
 go_enter Tryz.func227, Tryz.ntmps227
 go_wp2_with fail
 go_ret
 exact ⟨u, rfl, HU.out, hb⟩
theorem run_minI (a b : Int) (w : World) : (Builtin.min_ #[3, 3] 3 #[.int .i64 a, .int .i64 b]).run Tryz.prog w = .ok (.int .i64 (if b < a then b else a)) w := by
 by_cases h : b < a <;> simp [Builtin.min_, Builtin.min2, h]
theorem ticks_low (x : Nat) (least most r : Int) (hx : x < 18446744073709551616) (hr : (if most < least then most else least) = r)
    (h : nanB x = true ∨ (nanB x = false ∧ (FloatKind.f64.format.order (ceilN x) (floatOfInt .f64 least) == some .lt || FloatKind.f64.format.order (ceilN x) (floatOfInt .f64 least) == some .eq) = true)) (w : World) :
    Calls Tryz.prog 204 #[.float .f64 x, .int .i64 least, .int .i64 most] w fun e w' => e = .returned (.int .i64 r) ∧ Below w.heap.size w w' := by
 have hm := fun w => run_minI least most w
 rw [hr] at hm
 have HX := Lib.hid hx
 clear hr hx
 rcases h with h | ⟨h, hc⟩
 · have HN := Lib.hid h
   clear h
   go_enter Tryz.func204, Tryz.ntmps204
   go_wp2_with fail
   refine (ceil_any x HX.out w).mono ?_
   rintro e w1 ⟨u, rfl, hu, b1⟩
   have HU := Lib.hid hu
   clear hu
   go_wp2_with fail
   refine (isnan_any x HX.out w1).mono ?_
   rw [HN.out]
   rintro e w2 ⟨rfl, rfl⟩
   go_wp2_with fail
   go_ret
   exact ⟨rfl, b1⟩
 · have HN := Lib.hid h
   clear h
   go_enter Tryz.func204, Tryz.ntmps204
   go_wp2_with fail
   refine (ceil_any x HX.out w).mono ?_
   rintro e w1 ⟨u, rfl, hu, b1⟩
   obtain rfl := hu HN.out
   clear hu
   go_wp2_with fail
   refine (isnan_any x HX.out w1).mono ?_
   rw [HN.out]
   rintro e w2 ⟨rfl, rfl⟩
   go_wp2_with fail
   go_ret
   exact ⟨rfl, b1⟩
theorem ticks_most (x : Nat) (least most : Int) (hx : x < 18446744073709551616) (h : nanB x = false)
    (hc : (FloatKind.f64.format.order (ceilN x) (floatOfInt .f64 least) == some .lt || FloatKind.f64.format.order (ceilN x) (floatOfInt .f64 least) == some .eq) = false)
    (hd : (FloatKind.f64.format.order (ceilN x) (floatOfInt .f64 most) == some .gt || FloatKind.f64.format.order (ceilN x) (floatOfInt .f64 most) == some .eq) = true) (w : World) :
    Calls Tryz.prog 204 #[.float .f64 x, .int .i64 least, .int .i64 most] w fun e w' => e = .returned (.int .i64 most) ∧ Below w.heap.size w w' := by
 have HX := Lib.hid hx
 have HN := Lib.hid h
 clear h hx
 go_enter Tryz.func204, Tryz.ntmps204
 go_wp2_with fail
 refine (ceil_any x HX.out w).mono ?_
 rintro e w1 ⟨u, rfl, hu, b1⟩
 obtain rfl := hu HN.out
 clear hu
 go_wp2_with fail
 refine (isnan_any x HX.out w1).mono ?_
 rw [HN.out]
 rintro e w2 ⟨rfl, rfl⟩
 go_wp2_with fail
 go_ret
 exact ⟨rfl, b1⟩
theorem ticks_mid (x : Nat) (least most n : Int) (hx : x < 18446744073709551616) (h : nanB x = false)
    (hc : (FloatKind.f64.format.order (ceilN x) (floatOfInt .f64 least) == some .lt || FloatKind.f64.format.order (ceilN x) (floatOfInt .f64 least) == some .eq) = false)
    (hd : (FloatKind.f64.format.order (ceilN x) (floatOfInt .f64 most) == some .gt || FloatKind.f64.format.order (ceilN x) (floatOfInt .f64 most) == some .eq) = false)
    (hn : floatToIntVal .f64 (ceilN x) .i64 = some n) (w : World) :
    Calls Tryz.prog 204 #[.float .f64 x, .int .i64 least, .int .i64 most] w fun e w' => e = .returned (.int .i64 n) ∧ Below w.heap.size w w' := by
 have HX := Lib.hid hx
 have HN := Lib.hid h
 have hv := fun w => run_convert_float_int (P := Tryz.prog) w 185 3 .f64 .i64 (ceilN x) n (by kernel_rfl) Tryz.underlying3 hn
 clear h hx hn
 go_enter Tryz.func204, Tryz.ntmps204
 go_wp2_with fail
 refine (ceil_any x HX.out w).mono ?_
 rintro e w1 ⟨u, rfl, hu, b1⟩
 obtain rfl := hu HN.out
 clear hu
 go_wp2_with fail
 refine (isnan_any x HX.out w1).mono ?_
 rw [HN.out]
 rintro e w2 ⟨rfl, rfl⟩
 go_wp2_with fail
 go_ret
 exact ⟨rfl, b1⟩
theorem ord_tests {u v : Nat} (hu : u < 18446744073709551616) (hv : v < 18446744073709551616) (nu : nanB u = false) (nv : nanB v = false) :
    (FloatKind.f64.format.order u v == some .lt || FloatKind.f64.format.order u v == some .eq) = decide (key u ≤ key v) ∧
    (FloatKind.f64.format.order u v == some .gt || FloatKind.f64.format.order u v == some .eq) = decide (key v ≤ key u) ∧
    (FloatKind.f64.format.order u v == some .gt) = decide (key v < key u) := by
 rcases Int.lt_trichotomy (key u) (key v) with h | h | h
 · rw [ord_lt hu hv nu nv h, decide_eq_true (show key u ≤ key v by omega), decide_eq_false (show ¬ key v ≤ key u by omega), decide_eq_false (show ¬ key v < key u by omega)]
   exact ⟨rfl, rfl, rfl⟩
 · rw [ord_eq hu hv nu nv h, decide_eq_true (show key u ≤ key v by omega), decide_eq_true (show key v ≤ key u by omega), decide_eq_false (show ¬ key v < key u by omega)]
   exact ⟨rfl, rfl, rfl⟩
 · rw [ord_gt hu hv nu nv h, decide_eq_false (show ¬ key u ≤ key v by omega), decide_eq_true (show key v ≤ key u by omega), decide_eq_true (show key v < key u by omega)]
   exact ⟨rfl, rfl, rfl⟩
theorem ceil_good {x : Nat} (hx : x < 18446744073709551616) (hn : nanB x = false) : ceilN x < 18446744073709551616 ∧ nanB (ceilN x) = false ∧ (key (ceilN x) = 9218868437227405312 ∨ key (ceilN x) = -9218868437227405312 ∨
    ∃ (s : Bool) (c q k : Nat), ceilN x = double.word s (rungW s c) ∧ c = q * 2 ^ k ∧ q < 9007199254740992) := by
 rcases fin_or x with h | h | h
 · obtain ⟨c, q, k, e, h1, h2, _⟩ := ceil_fin hx h
   have e' : ceilN x = _ := e
   obtain ⟨k1, k2, _⟩ := key_sgn_word (neg63 x) c
   rw [e']
   exact ⟨k1, k2, .inr (.inr ⟨_, c, q, k, rfl, h1, h2⟩)⟩
 · have e : ceilN x = double.word (neg63 x) 9218868437227405312 := by
    unfold ceilN
    rw [read_inf x hx h]
    rfl
   rw [e]
   cases neg63 x
   · exact ⟨by decide +kernel, by decide +kernel, .inl (by decide +kernel)⟩
   · exact ⟨by decide +kernel, by decide +kernel, .inr (.inl (by decide +kernel))⟩
 · rw [hn] at h; cases h
theorem rung_63 (s : Bool) : rungW s 9223372036854775808 = 4890909195324358656 := by cases s <;> decide +kernel
theorem rung_64 (s : Bool) : rungW s 18446744073709551616 = 4895412794951729152 := by cases s <;> decide +kernel
theorem key_range {n : Int} (h : n.natAbs ≤ 9223372036854775808) : -4890909195324358656 ≤ key (floatOfInt .f64 n) ∧ key (floatOfInt .f64 n) ≤ 4890909195324358656 := by
 rw [(key_int n).2.2.2]
 have := rungW_mono (decide (n < 0)) (decide (n < 0)) h
 rw [rung_63] at this
 unfold sgn
 split <;> omega
theorem ceil_mid {x : Nat} {least most : Int} (hx : x < 18446744073709551616) (hn : nanB x = false) (h1 : least.natAbs ≤ 9223372036854775808) (h2 : most.natAbs ≤ 9223372036854775808) (hl : -9223372036854775808 ≤ least) (hm : most ≤ 9223372036854775807)
    (hL : key (floatOfInt .f64 least) < key (ceilN x)) (hM : key (ceilN x) < key (floatOfInt .f64 most)) : ∃ n, floatToIntVal .f64 (ceilN x) .i64 = some n ∧ least ≤ n ∧ n ≤ most := by
 have r1 := key_range h1
 have r2 := key_range h2
 obtain ⟨_, _, h⟩ := ceil_good hx hn
 rcases h with h | h | ⟨s, c, q, k, e, hc, hq⟩
 · omega
 · omega
 · have hk := key_whole s c
   rw [← e] at hk
   have hb : c < 18446744073709551616 := by
    rcases Nat.lt_or_ge c 18446744073709551616 with h | h
    · exact h
    · have := rungW_mono s s h
      rw [rung_64] at this
      have hks := (key_sgn_word s c).2.2
      rw [← e] at hks
      unfold sgn at hks
      split at hks <;> omega
   have hlog : c.log2 ≤ 900 := by
    by_cases h0 : c = 0
    · rw [h0]; decide
    · have : c.log2 < 64 := (Nat.log2_lt h0).2 hb
      omega
   have hi := int_of s hq hc hlog
   rw [← e] at hi
   have a1 : least ≤ sgn s c := by
    rcases Int.lt_or_le (sgn s c) least with h | h
    · have := key_mono (Int.le_of_lt h); omega
    · exact h
   have a2 : sgn s c ≤ most := by
    rcases Int.lt_or_le most (sgn s c) with h | h
    · have := key_mono (Int.le_of_lt h); omega
    · exact h
   refine ⟨sgn s c, ?_, a1, a2⟩
   unfold floatToIntVal
   have hd : FloatKind.f64.decode (ceilN x) = double.read (ceilN x) := rfl
   rw [hd, hi]
   simp only
   rw [if_pos ⟨show (-9223372036854775808 : Int) ≤ _ by omega, show _ ≤ (9223372036854775807 : Int) by omega⟩]
end Go.Proofs.YtmibndkofoldkaaGreatDoor
namespace Go.Proofs.YtmibndkofoldkaaGreatDoor
set_option linter.unusedVariables false
set_option linter.unusedSimpArgs false
set_option linter.constructorNameAsVariable false
open Go.RowKit
def nanBits : Nat := 9221120237041090561
def Tm_l26 (w : World) (base g : Nat) (v : Value) (L : List Rn) (least most limit : Int) (mean : Nat) : Prop :=
 base ≤ g ∧ Blk w g 187 #[.int .i64 least, .int .i64 most, .int .i64 limit, .float .f64 mean, v] ∧ w.ownsRow base 189 5 v L.length (flat_l26 L) ∧ L.length ≤ 1000
section
variable {w w' : World} {base g : Nat} {v : Value} {L : List Rn} {least most limit : Int} {mean : Nat}
theorem Tm_l26.fr {S : Nat → Prop} (h : Tm_l26 w base g v L least most limit mean) (hf : Fr S w w') (hg : ¬ S g) (hv : ∀ k, v.ownBlock = some k → ¬ S k) : Tm_l26 w' base g v L least most limit mean :=
 ⟨h.1, h.2.1.fr hf hg, own_fr h.2.2.1 hf hv, h.2.2.2⟩
theorem Tm_l26.new (h : Tm_l26 w base g v L least most limit mean) (hn : New w w') : Tm_l26 w' base g v L least most limit mean := ⟨h.1, hn.blk h.2.1, hn.own h.2.2.1, h.2.2.2⟩
theorem Tm_l26.ne (h : Tm_l26 w base g v L least most limit mean) : ∀ k, v.ownBlock = some k → ¬ k = g := fun k hk e => own_ne h.2.2.1 h.2.1 (by decide) (by rw [hk, e])
end
theorem elR_l26 : ElemOf Tryz.prog 184 189 5 40 := ElemOf.mk' (z := .agg #[.int .u64 0, .int .i64 0, .int .i64 0, .int .i64 0, .int .i64 0]) Tryz.underlying184 (by kernel_rfl) rfl (by decide)
theorem pclo_any_l26 (x : Rn) (n : Int) (pn : Addr) (w : World) (hp : w.cell? pn = some (.int .u64 n)) (hb : pn.block < w.heap.size) :
    Calls Tryz.prog 159 #[.agg #[.int .u64 x.n, .int .i64 x.b, .int .i64 x.d, .int .i64 x.l, .int .i64 x.s], .pointer (some pn)] w fun e w' => e = .returned (.bool (x.n == n)) ∧ Below w.heap.size w w' := by
 go_enter Tryz.func159, Tryz.ntmps159
 go_wp2
 go_ret
 exact ⟨rfl, (Below.refl _ _).alloc (Nat.le_refl _) _⟩
theorem idx_any_l26 (A : Option Addr) (n c : Nat) (L : List Rn) (a : Int) (pn : Addr) (w : World) (hp : w.cell? pn = some (.int .u64 a)) (hb : pn.block < w.heap.size)
    {p : Nat → Prop} (hL : Rd p w 5 A n (flat_l26 L)) (hn : n ≤ 1000000) :
    Calls Tryz.prog 158 #[.slice A n c, .func (.func 159) #[] #[.pointer (some pn)]] w fun e w' => e = .returned (.int .i64 (placeI_l26 L a)) ∧ Below w.heap.size w w' := by
 have hlen : L.length = n := by have := hL.1; rw [flat_len_l26] at this; omega
 have HL := Lib.hid hlen; clear hlen
 have HR := Lib.hid hL; clear hL
 go_enter Tryz.func158, Tryz.ntmps158
 go_wp2_with fail
 go_loopw [5, 8] (fun _ i wr => ∃ k : Nat, k ≤ n ∧ i = .int .i64 k ∧ Hid (New w wr) ∧ Hid (∀ j, (hj : j < L.length) → j < k → L[j].n ≠ a)) (fun _ i _ => n - (intOf i).toNat)
 case atStart => exact ⟨0, Nat.zero_le _, rfl, Lib.hid (New.refl w), Lib.hid (fun j _ h => absurd h (by omega))⟩
 case round =>
  obtain ⟨k, hk, rfl, HN, hprev⟩ := hrel
  by_cases hlt : k < n
  · obtain ⟨g, o, hl, rfl, hpb, hbb, c0, c1, c2, c3, c4⟩ := rd_elem_l26 (HN.out.rd HR.out) hlt
    have hpr : wr.cell? pn = some (.int .u64 a) := HN.out.cell_ hp
    have hbr : pn.block < wr.heap.size := Nat.lt_of_lt_of_le hb HN.out.size
    by_cases heq : L[k].n = a
    · have hq : (L[k].n == a) = true := by simpa using heq
      have HF := Lib.hid (placeI_some_l26 (place_some_l26 hl heq fun j hj => hprev.out j (by omega) hj))
      have HE := Lib.hid heq
      clear heq
      go_wp2_with (go_at_call 159; refine (pclo_any_l26 _ _ _ _ hpr hbr).mono ?_; rintro e w1 ⟨rfl, hb1⟩)
      go_ret
      exact ⟨by rw [HF.out]; rfl, HN.out.tr hb1⟩
    · have hq : (L[k].n == a) = false := by simpa using heq
      have HE := Lib.hid heq
      clear heq
      go_wp2_with (go_at_call 159; refine (pclo_any_l26 _ _ _ _ hpr hbr).mono ?_; rintro e w1 ⟨rfl, hb1⟩)
      go_roundw
      case rel =>
       refine ⟨k + 1, by omega, by go_num, Lib.hid (HN.out.tr hb1), Lib.hid fun j h1 h2 => ?_⟩
       rcases Nat.lt_or_ge j k with h3 | h3
       · exact hprev.out j h1 h3
       · obtain rfl : j = k := by omega
         exact HE.out
      case measure => simp [intOf]; omega
  · go_wp2_with fail
    go_ret
    have hfin : placeI_l26 L a = -1 := placeI_none_l26 (place_none_l26 fun j hj => hprev.out j hj (by have := HL.out; omega))
    exact ⟨by rw [hfin]; rfl, HN.out⟩
theorem place_any_l26 (base g : Nat) (v : Value) (L : List Rn) (least most limit : Int) (mean : Nat) (a : Int) (w : World) (hT : Tm_l26 w base g v L least most limit mean) :
    Calls Tryz.prog 102 #[.pointer (some ⟨g, 0, none⟩), .int .u64 a] w fun e w' => e = .returned (.int .i64 (placeI_l26 L a)) ∧ Below w.heap.size w w' := by
 obtain ⟨A, c, rfl, hnc, hcm, -, -⟩ := own_shape hT.2.2.1
 have h4 : w.cell? ⟨g, 4, none⟩ = some (.slice A L.length c) := hT.2.1.cell 4
 have hlt := hT.2.1.lt
 have HR := Lib.hid (Rd.own hT.2.2.1 rfl)
 have hlen := hT.2.2.2
 clear hT
 go_enter Tryz.func102, Tryz.ntmps102
 go_wp2_with (go_at_call 158; refine (idx_any_l26 A L.length c L a ⟨w.heap.size, 0, none⟩ _ (by simp) (by simp) ((New.al (New.refl w) _).rd HR.out) (by omega)).mono ?_; rintro e w1 ⟨rfl, hb1⟩)
 go_ret
 exact ⟨rfl, (New.al (New.refl w) _).tr hb1⟩
theorem run_max0 (a : Int) (w : World) : (Builtin.max_ #[3, 3] 3 #[.int .i64 a, .int .i64 0]).run Tryz.prog w = .ok (.int .i64 (if a < 0 then 0 else a)) w := by
 by_cases h : a < 0 <;> simp [Builtin.max_, Builtin.max2, h]
theorem tick_any (n : Int) (w : World) : Calls Tryz.prog 83 #[.int .i64 n] w fun e w' => e = .returned (.int .i64 (tickZ n)) ∧ w = w' := by
 have h1 := fun w => run_max0 n w
 have h2 := fun w => run_minI (if n < 0 then 0 else n) 1099511627776 w
 have h3 : (if 1099511627776 < (if n < 0 then 0 else n) then 1099511627776 else (if n < 0 then 0 else n)) = tickZ n := rfl
 rw [h3] at h2
 generalize (if n < 0 then 0 else n) = u at h1 h2
 generalize tickZ n = t at h2
 clear h3
 go_enter Tryz.func83, Tryz.ntmps83
 go_wp2_with fail
 go_ret
 exact ⟨rfl, rfl⟩
end Go.Proofs.YtmibndkofoldkaaGreatDoor
namespace Go.Proofs.YtmibndkofoldkaaGreatDoor
set_option linter.unusedVariables false
set_option linter.unusedSimpArgs false
set_option linter.constructorNameAsVariable false
open Go.RowKit
theorem new_bad_l26 (least most limit : Int) (w : World) (h : least < 1 ∨ most < least ∨ 65536 < most ∨ limit < 1 ∨ 1000 < limit) :
    Calls Tryz.prog 56 #[.int .i64 least, .int .i64 most, .int .i64 limit] w fun e w' => e = .returned (.tuple #[.pointer none, .iface 55 (.int .i64 1)]) ∧ w = w' := by
 by_cases h1 : least < 1
 · clear h
   go_enter Tryz.func56, Tryz.ntmps56
   go_wp2_with fail
   go_ret2
   exact ⟨rfl, rfl⟩
 have d1 : decide (least < 1) = false := decide_eq_false h1
 by_cases h2 : most < least
 · clear h h1
   go_enter Tryz.func56, Tryz.ntmps56
   go_wp2_with fail
   go_ret2
   exact ⟨rfl, rfl⟩
 have d2 : decide (most < least) = false := decide_eq_false h2
 by_cases h3 : 65536 < most
 · clear h h1 h2
   go_enter Tryz.func56, Tryz.ntmps56
   go_wp2_with fail
   go_ret2
   exact ⟨rfl, rfl⟩
 have d3 : decide (65536 < most) = false := decide_eq_false h3
 by_cases h4 : limit < 1
 · clear h h1 h2 h3
   go_enter Tryz.func56, Tryz.ntmps56
   go_wp2_with fail
   go_ret2
   exact ⟨rfl, rfl⟩
 have d4 : decide (limit < 1) = false := decide_eq_false h4
 have h5 : 1000 < limit := by omega
 clear h h1 h2 h3 h4
 go_enter Tryz.func56, Tryz.ntmps56
 go_wp2_with fail
 go_ret2
 exact ⟨rfl, rfl⟩
theorem new_any_l26 (least most limit : Int) (base : Nat) (w : World) (h1 : 1 ≤ least) (h2 : least ≤ most) (h3 : most ≤ 65536) (h4 : 1 ≤ limit) (h5 : limit ≤ 1000) (hb : base ≤ w.heap.size) :
    Calls Tryz.prog 56 #[.int .i64 least, .int .i64 most, .int .i64 limit] w fun e w' => e = .returned (.tuple #[.pointer (some ⟨w.heap.size, 0, none⟩), .nilIface]) ∧
     Tm_l26 w' base w.heap.size (.slice none 0 0) [] least most limit 9221120237041090561 ∧ New w w' := by
 have d1 : decide (least < 1) = false := decide_eq_false (by omega)
 have d2 : decide (most < least) = false := decide_eq_false (by omega)
 have d3 : decide (65536 < most) = false := decide_eq_false (by omega)
 have d4 : decide (limit < 1) = false := decide_eq_false (by omega)
 have d5 : decide (1000 < limit) = false := decide_eq_false (by omega)
 clear h1 h2 h3 h4 h5
 go_enter Tryz.func56, Tryz.ntmps56
 go_wp2_with (go_at_call 105; refine (nan_any _).mono ?_; rintro e w1 ⟨rfl, rfl⟩)
 go_ret2
 exact ⟨rfl, ⟨hb, Blk.new _ _ _, World.ownsRow_nil _ _ _ _, by simp⟩, New.al (New.refl _) _⟩
end Go.Proofs.YtmibndkofoldkaaGreatDoor
namespace Go.Proofs.YtmibndkofoldkaaGreatDoor
set_option linter.unusedVariables false
set_option linter.unusedSimpArgs false
set_option linter.constructorNameAsVariable false
open Go.RowKit
theorem own_apart {w : World} {b1 b2 e1 e2 s1 s2 n1 n2 : Nat} {v1 v2 : Value} {x1 x2 : List Value} (h1 : w.ownsRow b1 e1 s1 v1 n1 x1) (h2 : w.ownsRow b2 e2 s2 v2 n2 x2) (hne : e1 ≠ e2) (k : Nat) (hk : v1.ownBlock = some k) : ¬ v2.ownBlock = some k := by
 rcases h1.2 with ⟨rfl, _⟩ | ⟨g, cap, cur, rfl, _, hh, _⟩
 · cases hk
 · obtain rfl : g = k := by simpa [Value.ownBlock] using hk
   exact own_ne h2 (t := e1) hh (fun e => hne e.symm)
end Go.Proofs.YtmibndkofoldkaaGreatDoor
namespace Go.Proofs.YtmibndkofoldkaaGreatDoor
set_option linter.unusedVariables false
set_option linter.unusedSimpArgs false
set_option linter.constructorNameAsVariable false
open Go.RowKit
theorem ticks_one (x : Nat) (least most : Int) (hx : x < 18446744073709551616) (hl : -9223372036854775808 ≤ least ∧ least ≤ 9223372036854775807) (hm : -9223372036854775808 ≤ most ∧ most ≤ 9223372036854775807) (hk : ¬ most < least) :
    ∃ r : Int, (∀ w : World, Calls Tryz.prog 204 #[.float .f64 x, .int .i64 least, .int .i64 most] w fun e w' => e = .returned (.int .i64 r) ∧ Below w.heap.size w w') ∧ least ≤ r ∧ r ≤ most := by
 obtain ⟨l1, l2, _, _⟩ := key_int least
 obtain ⟨m1, m2, _, _⟩ := key_int most
 cases hn : nanB x
 · obtain ⟨u1, u2, _⟩ := ceil_good hx hn
   obtain ⟨tl, _, tg⟩ := ord_tests u1 l1 u2 l2
   obtain ⟨_, tm, _⟩ := ord_tests u1 m1 u2 m2
   by_cases hU : key (ceilN x) ≤ key (floatOfInt .f64 least)
   · exact ⟨least, ticks_low x least most least hx (if_neg hk) (.inr ⟨hn, tl.trans (decide_eq_true hU)⟩), Int.le_refl _, by omega⟩
   · have hcl : decide (key (ceilN x) ≤ key (floatOfInt .f64 least)) = false := decide_eq_false hU
     by_cases hM : key (floatOfInt .f64 most) ≤ key (ceilN x)
     · exact ⟨most, ticks_most x least most hx hn (tl.trans hcl) (tm.trans (decide_eq_true hM)), by omega, Int.le_refl _⟩
     · obtain ⟨n, h1, h2, h3⟩ := ceil_mid (least := least) (most := most) hx hn (by omega) (by omega) hl.1 hm.2 (by omega) (by omega)
       exact ⟨n, ticks_mid x least most n hx hn (tl.trans hcl) (tm.trans (decide_eq_false hM)) h1, h2, h3⟩
 · exact ⟨least, ticks_low x least most least hx (if_neg hk) (.inl hn), Int.le_refl _, by omega⟩
def TickL (mean : Nat) (least most r : Int) : Prop :=
 (∀ x, Gives_l18 .mul 4611686018427387904 mean x → ∀ w : World, Calls Tryz.prog 204 #[.float .f64 x, .int .i64 least, .int .i64 most] w fun e w' => e = .returned (.int .i64 r) ∧ Below w.heap.size w w') ∧ least ≤ r ∧ r ≤ most
theorem tickL_ex (mean : Nat) (least most : Int) (h1 : 1 ≤ least) (h2 : least ≤ most) (h3 : most ≤ 65536) : ∃ r, TickL mean least most r := by
 rcases hf : floatBits .mul .f64 4611686018427387904 mean with _ | q
 · refine ⟨least, fun x hx => ?_, Int.le_refl _, h2⟩
   have hn : nanB x = true := by have := hx.2; rw [hf] at this; exact this
   exact ticks_low x least most least hx.1 (if_neg (by omega)) (.inl hn)
 · by_cases hq : q < 18446744073709551616
   · obtain ⟨r, a, b, c⟩ := ticks_one q least most hq (by omega) (by omega) (by omega)
     refine ⟨r, fun x hx => ?_, by omega, c⟩
     have e : x = q := by have := hx.2; rw [hf] at this; exact this
     subst e
     exact a
   · refine ⟨least, fun x hx => ?_, Int.le_refl _, h2⟩
     have e : x = q := by have := hx.2; rw [hf] at this; exact this
     exact absurd hx.1 (by rw [e]; exact hq)
set_option maxHeartbeats 8000000 in
theorem itvl_any (base g : Nat) (v : Value) (L : List Rn) (least most limit : Int) (mean : Nat) (r : Int) (w : World) (hT : Tm_l26 w base g v L least most limit mean) (hr : TickL mean least most r) :
    Calls Tryz.prog 177 #[.pointer (some ⟨g, 0, none⟩)] w fun e w' => e = .returned (.int .i64 r) ∧ New w w' := by
 have h0 : w.cell? ⟨g, 0, none⟩ = some (.int .i64 least) := hT.2.1.cell 0
 have h1 : w.cell? ⟨g, 1, none⟩ = some (.int .i64 most) := hT.2.1.cell 1
 have h3 : w.cell? ⟨g, 3, none⟩ = some (.float .f64 mean) := hT.2.1.cell 3
 have d0 : w.drew.cell? ⟨g, 0, none⟩ = some (.int .i64 least) := h0
 have d1 : w.drew.cell? ⟨g, 1, none⟩ = some (.int .i64 most) := h1
 have d3 : w.drew.cell? ⟨g, 3, none⟩ = some (.float .f64 mean) := h3
 obtain ⟨x, w3, hr3, hg3, hb3⟩ := run_flt (P := Tryz.prog) .mul (by simp) 185 4611686018427387904 mean w.drew
 have HR := Lib.hid (hr.1 x hg3)
 have HB : Hid (New w.drew w3) := Lib.hid hb3
 have e0 := New.cell_ HB.out d0
 have e1 := New.cell_ HB.out d1
 clear hT hr hg3 hb3
 go_enter Tryz.func177, Tryz.ntmps177
 go_wp2_with fail
 go_region_with (go_at_call 204; refine (HR.out _).mono ?_; rintro e w4 ⟨rfl, hN4⟩; have HN4 : Hid (New w3 w4) := Lib.hid hN4; clear hN4)
 all_goals
  go_wp2_with fail
  go_ret
  exact ⟨rfl, ((New.dr (New.refl w)).tr HB.out).tr HN4.out⟩
theorem tstart_yes (base g : Nat) (v : Value) (L : List Rn) (least most limit : Int) (mean : Nat) (a now r : Int) (w : World) (hT : Tm_l26 w base g v L least most limit mean) (hp : place_l26 L a = none)
    (hr : TickL mean least most r) (h1 : 1 ≤ least) (h3 : most ≤ 65536) (hlen : L.length < 1000) :
    Calls Tryz.prog 134 #[.pointer (some ⟨g, 0, none⟩), .int .u64 a, .int .i64 now] w fun e w' => e = .returned (.bool true) ∧
     ∃ v', Tm_l26 w' base g v' (L ++ [⟨a, tickZ now, tickZ now + r, r, 1⟩]) least most limit mean ∧ Fr (fun k => k = g ∨ v.ownBlock = some k) w w' ∧ (∀ k, v'.ownBlock = some k → v.ownBlock = some k ∨ w.heap.size ≤ k) := by
 have HQ := Lib.hid (placeI_none_l26 hp)
 have HT := Lib.hid hT
 have hr1 := hr.2.1
 have hr2 := hr.2.2
 have HR := Lib.hid hr
 have ht := tickZ_in now
 have htc := tick_any now
 generalize tickZ now = tk at ht htc ⊢
 have HTC := Lib.hid htc
 clear hp hT hr htc
 go_enter Tryz.func134, Tryz.ntmps134
 go_wp2_with fail
 refine (place_any_l26 base g v L least most limit mean a w HT.out).mono ?_
 rw [HQ.out]
 rintro e w1 ⟨rfl, hb1⟩
 have HN1 : Hid (New w w1) := Lib.hid hb1
 go_wp2_with (go_at_call 83; refine (HTC.out _).mono ?_; rintro e w2 ⟨rfl, rfl⟩)
 refine (itvl_any base g v L least most limit mean r w1 (HT.out.new HN1.out) HR.out).mono ?_
 rintro e w2 ⟨rfl, hN2⟩
 have HN2 : Hid (New w w2) := Lib.hid (HN1.out.tr hN2)
 clear hN2 hb1
 have hT2 := HT.out.new HN2.out
 obtain ⟨A, c, rfl, hnc, hcm, -, -⟩ := own_shape hT2.2.2.1
 have i4 : w2.cell? ⟨g, 4, none⟩ = some (.slice A L.length c) := hT2.2.1.cell 4
 have hng := hT2.ne
 have HB2 := Lib.hid hT2.2.1
 have HO2 := Lib.hid hT2.2.2.1
 have hbase : base ≤ w2.heap.size := by have := hT2.2.1.lt; have := hT2.1; omega
 have HT2 := Lib.hid hT2
 have HNG := Lib.hid hng
 clear hT2 hng
 go_wp2_with (at_builtin; refine wpList_app elR_l26 _ rfl (.tmp 24) (.tmp 32) rfl base (.slice A L.length c) L.length (flat_l26 L) rfl (New.own (New.al (New.refl w2) _) HO2.out) (some ⟨w2.heap.size, 0, none⟩) 1 1 [.int .u64 a, .int .i64 tk, .int .i64 (tk + r), .int .i64 r, .int .i64 1] rfl (Rd.ofBlk (p := fun _ => True) (t := 189) (cs := #[.int .u64 a, .int .i64 tk, .int .i64 (tk + r), .int .i64 r, .int .i64 1]) (Blk.new' _ _ _ rfl) 5 1 rfl trivial) (by simp [Value.oneCell']) (by unfold maxLen; omega) (by omega) (by simp; omega) ?_; intro A' c' w3 hO3 hF3 hA3; have hB3 := (HB2.out.alloc _).fr hF3 (fun e => HNG.out _ e rfl); have m4 := hB3.cell 4; have q4 := hB3.frozen 4; have HB3 := Lib.hid hB3; have HO3 := Lib.hid hO3; have HF3 := Lib.hid hF3; have HA3 := Lib.hid hA3; clear hB3 hO3 hF3 hA3)
 go_ret
 have hnew : ∀ k, (Value.slice A' (L.length + 1) c').ownBlock = some k → ¬ k = g := fun k hk e => by
  rcases HA3.out k hk with h | h
  · exact HNG.out k h e
  · have := HB2.out.lt; simp at h; omega
 refine ⟨rfl, .slice A' (L.length + 1) c', ⟨HT2.out.1, HB3.out.set 4 _, ?_, by simp; omega⟩, ?_, fun k hk => ?_⟩
 · rw [flat_app_l26, flat_one_l26, List.length_append]
   exact own_fr HO3.out ((Fr.refl (fun k => k = g) _).setCell (p := ⟨g, 4, none⟩) (fun _ => rfl) _) hnew
 · refine ((HN2.out.toFr _).trans' (((Fr.refl (fun k => k = g ∨ (Value.slice A L.length c).ownBlock = some k) _).alloc _).trans (HF3.out.mono fun b _ h => Or.inr h)) (fun _ _ h => h)).setCell (fun _ => Or.inl rfl) _
 · rcases HA3.out k hk with h | h
   · exact .inl h
   · have := HN2.out.size; simp at h; exact .inr (by omega)
end Go.Proofs.YtmibndkofoldkaaGreatDoor
