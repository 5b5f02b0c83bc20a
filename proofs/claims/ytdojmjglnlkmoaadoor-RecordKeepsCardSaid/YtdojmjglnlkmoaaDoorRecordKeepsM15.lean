/- Texts of one proof, one behind the other: Fill, RcE, NdD, NdP. No condition but each one's own. -/
import Derived.Test.YtdojmjglnlkmoaaDoorRecordKeepsM4
import Derived.Test.YtdojmjglnlkmoaaDoorRecordKeepsM9
import Derived.Laws.Tables
import Derived.Test.YtdojmjglnlkmoaaDoorRecordKeepsM14
import Derived.Test.YtdojmjglnlkmoaaDoorRecordKeepsM13
import Derived.Lib.Strings
import Derived.Lib.Slices
import Derived.Lib.Small
import Derived.Lib.Walk
import Derived.Lib.BitFns
import Derived.Test.YtdojmjglnlkmoaaDoorRecordKeepsM8
/- A struct or an array put together of parts: each part is laid over the zero value. No condition. -/
namespace Go.Proofs.YtdojmjglnlkmoaaDoor
set_option linter.unusedVariables false
set_option linter.unusedSimpArgs false
set_option linter.constructorNameAsVariable false
open Go.RowKit

theorem splice_set {xs : List Value} {o : Nat} (y : Value) (ys : List Value) (h : o < xs.length) : splice (xs.set o y) (o + 1) ys = splice xs o (y :: ys) := by
  unfold splice
  rw [List.take_succ_eq_append_getElem (by simpa using h), List.drop_set_of_lt (by omega)]
  simp [List.take_set_of_le]
  omega
theorem zip_splice : ∀ (ys : List Value) (j off : Nat) (xs : List Value), off + j + ys.length ≤ xs.length →
    (ys.zipIdx j).foldl (fun (cs : Array Value) (x : Value × Nat) => cs.setIfInBounds (off + x.2) x.1) xs.toArray = (splice xs (off + j) ys).toArray
  | [], j, off, xs, _ => by simp [splice]
  | y :: ys, j, off, xs, h => by
    simp only [List.length_cons] at h
    rw [List.zipIdx_cons, List.foldl_cons]
    simp only [List.setIfInBounds_toArray]
    rw [zip_splice ys (j + 1) off _ (by simp; omega), show off + (j + 1) = off + j + 1 by omega, splice_set y ys (by omega)]
theorem fill_one {place : Nat → Option (Nat × Nat)} {i off : Nat} {v : Value} {xs ys : List Value} {rest : List (Nat × Value)} (hp : place i = some (off, ys.length)) (hv : v.cells = ys.toArray) (hl : off + ys.length ≤ xs.length) :
    Instr.fill place xs.toArray ((i, v) :: rest) = Instr.fill place (splice xs off ys).toArray rest := by
  conv => lhs; unfold Instr.fill
  simp only [hp, hv]
  rw [if_neg (by simp; omega)]
  congr 1
  have := zip_splice ys 0 off xs (by omega)
  rw [Nat.add_zero] at this
  rw [← this, ← Array.foldl_toList, Array.toList_zipIdx]
theorem fill_nil {place : Nat → Option (Nat × Nat)} (cs : Array Value) : Instr.fill place cs [] = some cs := rfl
theorem splice_app {a b ys : List Value} {o k : Nat} (h : a.length = o) : splice (a ++ b) (o + k) ys = a ++ splice b k ys := by
  subst h
  unfold splice
  rw [List.take_length_add_append]
  simp only [List.append_assoc]
  rw [show a.length + k + ys.length = a.length + (k + ys.length) by omega, List.drop_length_add_append]
theorem splice_fst {a b ys : List Value} (h : a.length = ys.length) : splice (a ++ b) 0 ys = ys ++ b := by
  unfold splice
  rw [List.take_zero, List.nil_append, Nat.zero_add, ← h, List.drop_left]
/-- An array of which the first element is given. -/
theorem built_arr1 {P : Program} {t e n m : Nat} {zs ys : List Value} (hu : P.underlying t = some (.array n e)) (hi : (P.info? t).map (fun i => (i.zero, i.size)) = some (some (.agg zs.toArray), m)) (he : (P.info? e).map (·.size) = some ys.length) (hl : ys.length ≤ zs.length) :
    P.built t [(0, .agg ys.toArray)] = some (splice zs 0 ys).toArray := by
  unfold Program.built
  cases hq : P.info? t with
  | none => simp [hq] at hi
  | some it =>
    cases hqe : P.info? e with
    | none => simp [hqe] at he
    | some ie =>
      have h1 : it.zero = some (.agg zs.toArray) := by
        rw [hq] at hi
        exact congrArg Prod.fst (Option.some.inj hi)
      have h2 : ie.size = ys.length := by simpa [hqe] using he
      simp only [hu, h1, hqe, h2, Value.cells]
      rw [fill_one (off := 0) (ys := ys) (by simp) rfl (by omega)]
      rfl
theorem wpList_built {P : Program} {ops : Array Oper} {rest : List Oper} {o : Oper} {a : Act} {w : World} {Q : Exit → Act → World → Prop} (hw : Region.wanted o (yielded ops a.tmps) = true) (t : TypeId) (l : List (Nat × Operand)) (ho : o.op = .build t l.toArray) (vs : List (Nat × Value)) (hv : (l.map fun (i, x) => (i, a.eval x)) = vs) (cells : Array Value) (hb : P.built t vs = some cells)
    (h : wpList P ops Q rest (a.put o.dst (.agg cells)) w) : wpList P ops Q (o :: rest) a w :=
  wpList_want hw fun K hK => by
    have hf : P.built t (l.toArray.map fun (i, x) => (i, a.eval x)).toList = some cells := by rw [List.map_toArray, hv]; exact hb
    refine wp_build t l.toArray ho (by rw [hf]; rfl) ?_
    rw [hf]
    exact hK _ _ h
end Go.Proofs.YtdojmjglnlkmoaaDoor
/- A record put together of its parts. No condition. -/
namespace Go.Proofs.YtdojmjglnlkmoaaDoor
set_option linter.unusedVariables false
set_option linter.unusedSimpArgs false
set_option linter.constructorNameAsVariable false
open Go.RowKit Go.Sort

set_option maxRecDepth 100000 in
theorem built_rec' (x0 x1 x2 x3 x4 x5 x6 x7 x8 x9 x10 x11 x12 x13 x14 x15 x16 x17 x18 x19 x20 x21 x22 x23 x24 x25 x26 x27 x28 x29 x30 x31 : Int) (a b c : Nat) : Tryd.prog.built 48 [(0, .agg (secA [x0, x1, x2, x3, x4, x5, x6, x7, x8, x9, x10, x11, x12, x13, x14, x15, x16, x17, x18, x19, x20, x21, x22, x23, x24, x25, x26, x27, x28, x29, x30, x31])), (1, .int .u64 a), (2, .int .u64 b), (3, .int .u64 c)] = some (Rc.cells ⟨[x0, x1, x2, x3, x4, x5, x6, x7, x8, x9, x10, x11, x12, x13, x14, x15, x16, x17, x18, x19, x20, x21, x22, x23, x24, x25, x26, x27, x28, x29, x30, x31], a, b, c, 0, 0⟩) := by kernel_rfl
set_option maxRecDepth 100000 in
theorem built_rec (xs : List Int) (h : xs.length = 32) (a b c : Nat) : Tryd.prog.built 48 [(0, .agg (secA xs)), (1, .int .u64 a), (2, .int .u64 b), (3, .int .u64 c)] = some (Rc.cells ⟨xs, a, b, c, 0, 0⟩) := by
  obtain ⟨x0, xs, rfl⟩ := List.exists_cons_of_length_eq_add_one h
  replace h : xs.length = 31 := by simpa using h
  obtain ⟨x1, xs, rfl⟩ := List.exists_cons_of_length_eq_add_one h
  replace h : xs.length = 30 := by simpa using h
  obtain ⟨x2, xs, rfl⟩ := List.exists_cons_of_length_eq_add_one h
  replace h : xs.length = 29 := by simpa using h
  obtain ⟨x3, xs, rfl⟩ := List.exists_cons_of_length_eq_add_one h
  replace h : xs.length = 28 := by simpa using h
  obtain ⟨x4, xs, rfl⟩ := List.exists_cons_of_length_eq_add_one h
  replace h : xs.length = 27 := by simpa using h
  obtain ⟨x5, xs, rfl⟩ := List.exists_cons_of_length_eq_add_one h
  replace h : xs.length = 26 := by simpa using h
  obtain ⟨x6, xs, rfl⟩ := List.exists_cons_of_length_eq_add_one h
  replace h : xs.length = 25 := by simpa using h
  obtain ⟨x7, xs, rfl⟩ := List.exists_cons_of_length_eq_add_one h
  replace h : xs.length = 24 := by simpa using h
  obtain ⟨x8, xs, rfl⟩ := List.exists_cons_of_length_eq_add_one h
  replace h : xs.length = 23 := by simpa using h
  obtain ⟨x9, xs, rfl⟩ := List.exists_cons_of_length_eq_add_one h
  replace h : xs.length = 22 := by simpa using h
  obtain ⟨x10, xs, rfl⟩ := List.exists_cons_of_length_eq_add_one h
  replace h : xs.length = 21 := by simpa using h
  obtain ⟨x11, xs, rfl⟩ := List.exists_cons_of_length_eq_add_one h
  replace h : xs.length = 20 := by simpa using h
  obtain ⟨x12, xs, rfl⟩ := List.exists_cons_of_length_eq_add_one h
  replace h : xs.length = 19 := by simpa using h
  obtain ⟨x13, xs, rfl⟩ := List.exists_cons_of_length_eq_add_one h
  replace h : xs.length = 18 := by simpa using h
  obtain ⟨x14, xs, rfl⟩ := List.exists_cons_of_length_eq_add_one h
  replace h : xs.length = 17 := by simpa using h
  obtain ⟨x15, xs, rfl⟩ := List.exists_cons_of_length_eq_add_one h
  replace h : xs.length = 16 := by simpa using h
  obtain ⟨x16, xs, rfl⟩ := List.exists_cons_of_length_eq_add_one h
  replace h : xs.length = 15 := by simpa using h
  obtain ⟨x17, xs, rfl⟩ := List.exists_cons_of_length_eq_add_one h
  replace h : xs.length = 14 := by simpa using h
  obtain ⟨x18, xs, rfl⟩ := List.exists_cons_of_length_eq_add_one h
  replace h : xs.length = 13 := by simpa using h
  obtain ⟨x19, xs, rfl⟩ := List.exists_cons_of_length_eq_add_one h
  replace h : xs.length = 12 := by simpa using h
  obtain ⟨x20, xs, rfl⟩ := List.exists_cons_of_length_eq_add_one h
  replace h : xs.length = 11 := by simpa using h
  obtain ⟨x21, xs, rfl⟩ := List.exists_cons_of_length_eq_add_one h
  replace h : xs.length = 10 := by simpa using h
  obtain ⟨x22, xs, rfl⟩ := List.exists_cons_of_length_eq_add_one h
  replace h : xs.length = 9 := by simpa using h
  obtain ⟨x23, xs, rfl⟩ := List.exists_cons_of_length_eq_add_one h
  replace h : xs.length = 8 := by simpa using h
  obtain ⟨x24, xs, rfl⟩ := List.exists_cons_of_length_eq_add_one h
  replace h : xs.length = 7 := by simpa using h
  obtain ⟨x25, xs, rfl⟩ := List.exists_cons_of_length_eq_add_one h
  replace h : xs.length = 6 := by simpa using h
  obtain ⟨x26, xs, rfl⟩ := List.exists_cons_of_length_eq_add_one h
  replace h : xs.length = 5 := by simpa using h
  obtain ⟨x27, xs, rfl⟩ := List.exists_cons_of_length_eq_add_one h
  replace h : xs.length = 4 := by simpa using h
  obtain ⟨x28, xs, rfl⟩ := List.exists_cons_of_length_eq_add_one h
  replace h : xs.length = 3 := by simpa using h
  obtain ⟨x29, xs, rfl⟩ := List.exists_cons_of_length_eq_add_one h
  replace h : xs.length = 2 := by simpa using h
  obtain ⟨x30, xs, rfl⟩ := List.exists_cons_of_length_eq_add_one h
  replace h : xs.length = 1 := by simpa using h
  obtain ⟨x31, xs, rfl⟩ := List.exists_cons_of_length_eq_add_one h
  replace h : xs.length = 0 := by simpa using h
  obtain rfl := List.eq_nil_of_length_eq_zero h
  exact built_rec' x0 x1 x2 x3 x4 x5 x6 x7 x8 x9 x10 x11 x12 x13 x14 x15 x16 x17 x18 x19 x20 x21 x22 x23 x24 x25 x26 x27 x28 x29 x30 x31 a b c
end Go.Proofs.YtdojmjglnlkmoaaDoor
/- How many bits a number has (turned from the worked contract of the kit's shelf), and a tree's height. No condition. -/
namespace Go.Proofs.YtdojmjglnlkmoaaDoor
set_option linter.unusedVariables false
set_option linter.unusedSimpArgs false
set_option linter.constructorNameAsVariable false
open Go.RowKit

set_option maxHeartbeats 4000000
set_option maxRecDepth 100000
theorem tab_all : ∀ n : Fin 256, ∃ h : n.val < Lib.len8tab.size, (Lib.len8tab[n.val]'h).toNat = Lib.bitLen n.val := by decide +kernel
theorem tab_at {n : Nat} (h : n < Lib.len8tab.size) : (Lib.len8tab[n]).toNat = Lib.bitLen n ∧ Lib.bitLen n ≤ 8 := by
  have hs : Lib.len8tab.size = 256 := by decide +kernel
  obtain ⟨_, h1⟩ := tab_all ⟨n, by omega⟩
  exact ⟨h1, Lib.bitLen_le8 ⟨n, by omega⟩⟩
theorem wrap_small {v : Int} (h0 : 0 ≤ v) (h1 : v ≤ 100) : wrap64 v = v := by unfold wrap64; omega
theorem wrap_bl {d : Nat} (h : Lib.bitLen d ≤ 8) (k : Nat) (hk : k ≤ 24) : wrap64 ((k : Int) + wrap64 ((Lib.bitLen d : Nat) : Int)) = ((k + Lib.bitLen d : Nat) : Int) := by
  generalize Lib.bitLen d = b at h ⊢
  rw [wrap_small (v := (b : Int)) (by omega) (by omega), wrap_small (by omega) (by omega)]
  omega
theorem tab_a (x : Int) (h0 : 0 ≤ x) (h1 : x < 4294967296) (h2 : 65536 ≤ x) (h3 : 256 ≤ x / 65536) (hb : (x / 65536 / 256).toNat < Lib.len8tab.size) : wrap64 (24 + wrap64 ((Lib.len8tab[(x / 65536 / 256).toNat]).toNat : Int)) = (Lib.bitLen x.toNat : Int) := by
  obtain ⟨t1, t2⟩ := tab_at hb
  have s := Lib.bitLen_shift24 x.toNat (by omega) (by omega)
  have e : (x / 65536 / 256).toNat = x.toNat / 16777216 := by omega
  rw [t1]
  rw [e] at t2 ⊢
  rw [s]
  exact wrap_bl t2 24 (by decide)
theorem tab_b (x : Int) (h0 : 0 ≤ x) (h1 : x < 4294967296) (h2 : 65536 ≤ x) (hb : (x / 65536).toNat < Lib.len8tab.size) : wrap64 (16 + wrap64 ((Lib.len8tab[(x / 65536).toNat]).toNat : Int)) = (Lib.bitLen x.toNat : Int) := by
  obtain ⟨t1, t2⟩ := tab_at hb
  have s := Lib.bitLen_shift16 x.toNat (by omega) (by omega)
  have e : (x / 65536).toNat = x.toNat / 65536 := by omega
  rw [t1]
  rw [e] at t2 ⊢
  rw [s]
  exact wrap_bl t2 16 (by decide)
theorem tab_c (x : Int) (h0 : 0 ≤ x) (h1 : x < 4294967296) (h2 : 256 ≤ x) (hb : (x / 256).toNat < Lib.len8tab.size) : wrap64 (8 + wrap64 ((Lib.len8tab[(x / 256).toNat]).toNat : Int)) = (Lib.bitLen x.toNat : Int) := by
  obtain ⟨t1, t2⟩ := tab_at hb
  have s := Lib.bitLen_shift8 x.toNat (by omega) (by omega)
  have e : (x / 256).toNat = x.toNat / 256 := by omega
  rw [t1]
  rw [e] at t2 ⊢
  rw [s]
  exact wrap_bl t2 8 (by decide)
theorem tab_d (x : Int) (hb : x.toNat < Lib.len8tab.size) : wrap64 (wrap64 ((Lib.len8tab[x.toNat]).toNat : Int)) = (Lib.bitLen x.toNat : Int) := by
  obtain ⟨t1, t2⟩ := tab_at hb
  rw [t1]
  have q := wrap_small (v := ((Lib.bitLen x.toNat : Nat) : Int)) (by omega) (by omega)
  rw [q, q]
theorem tab_no (y : Int) (h0 : 0 ≤ y) (h1 : y < 256) (h : ¬ (0 ≤ y ∧ y < (Lib.len8tab.size : Int))) : False := by
  have hs : Lib.len8tab.size = 256 := by decide +kernel
  omega
theorem len64_any (x : Int) (w : World) (h0 : 0 ≤ x) (h1 : x < 4294967296) :
    Calls Tryd.prog 56 #[.int .u64 x] w fun e w' => e = .returned (.int .i64 (Lib.bitLen x.toNat)) ∧ w' = w := by
  go_enter Tryd.func56, Tryd.ntmps56
  go_wp2_with fail
  all_goals first
    | (rename_i hno; exact (tab_no _ (by omega) (by omega) hno).elim)
    | (go_ret
       refine ⟨congrArg Ending.returned (congrArg (Value.int IntKind.i64) ?_), rfl⟩
       first
         | exact tab_a x h0 h1 (by assumption) (by assumption) _
         | exact tab_b x h0 h1 (by assumption) _
         | exact tab_c x h0 h1 (by assumption) _
         | exact tab_d x _)
theorem bitLen_1 : Lib.bitLen 1 = 1 := by decide
theorem bitLen_0 : Lib.bitLen 0 = 0 := by decide
theorem bitLen_between {x k : Nat} (h1 : 2 ^ k ≤ x) (h2 : x < 2 ^ (k + 1)) (h : x < 18446744073709551616) : Lib.bitLen x = k + 1 := by
  rw [Lib.bitLen_shift k x h1 h]
  have : x / 2 ^ k = 1 := by
    have hp : 0 < 2 ^ k := Nat.two_pow_pos k
    rw [Nat.pow_succ] at h2
    exact Nat.div_eq_of_lt_le (by omega) (by omega)
  rw [this, bitLen_1]
theorem bitLen_32 {x : Nat} (h : x < 4294967296) : Lib.bitLen x ≤ 32 := by
  unfold Lib.bitLen
  exact Lib.bitLenAux_le 64 x 32 h
/-- The height of a tree over so many blocks. -/
def hgt (n : Nat) : Nat := Lib.bitLen (n - 1)
theorem hgt_le {n : Nat} (h1 : 1 ≤ n) (h : n ≤ 4294967296) : hgt n ≤ 32 := bitLen_32 (by omega)
theorem height_ok (n : Nat) (w : World) (h1 : 1 ≤ n) (h2 : n ≤ 4294967296) : Calls Tryd.prog 38 #[.int .u64 n] w fun e w' => e = .returned (.tuple #[.int .i64 (hgt n : Nat), .nilIface]) ∧ w' = w := by
  have q1 : ¬ ((n : Int) < 1) := by omega
  have q2 : ¬ ((4294967296 : Int) < (n : Int)) := by omega
  obtain ⟨m, hm⟩ : ∃ m, m = n - 1 := ⟨_, rfl⟩
  have e1 : (n : Int) - 1 = (m : Int) := by omega
  have e2 : IntKind.u64.wrap (m : Int) = (m : Int) := by rw [IntKind.wrap_u64]; omega
  have HM : Hid ((m : Int) < 4294967296) := Lib.hid (by omega)
  have HG : Hid (Lib.bitLen (m : Int).toNat = hgt n) := Lib.hid (by rw [Int.toNat_natCast, hm]; rfl)
  clear hm h1 h2
  have q3 : decide ((4294967296 : Int) < (n : Int)) = false := decide_eq_false q2
  have HQ := Lib.hid q2
  clear q2
  go_enter Tryd.func38, Tryd.ntmps38
  go_wp2_with fail
  refine (len64_any (m : Int) w (by omega) HM.out).mono ?_
  rintro e w1 ⟨rfl, rfl⟩
  rw [HG.out]
  go_wp2_with fail
  go_ret2
  exact ⟨rfl, rfl⟩
theorem height_bad (n : Nat) (w : World) (h : ¬ (1 ≤ n ∧ n ≤ 4294967296)) : Calls Tryd.prog 38 #[.int .u64 n] w fun e w' => e = .returned (.tuple #[.int .i64 0, .iface 55 (.int .i64 1)]) ∧ w' = w := by
  by_cases hn : n = 0
  · subst hn
    go_enter Tryd.func38, Tryd.ntmps38
    go_wp2_with fail
    go_ret2
    exact ⟨rfl, rfl⟩
  · have q1 : ¬ ((n : Int) < 1) := by omega
    have q3 : decide ((4294967296 : Int) < (n : Int)) = true := decide_eq_true (by omega)
    clear h hn
    go_enter Tryd.func38, Tryd.ntmps38
    go_wp2_with fail
    go_ret2
    exact ⟨rfl, rfl⟩
end Go.Proofs.YtdojmjglnlkmoaaDoor
/- A tree's nodes in plain words: what is hashed, and the roots of volumes without written blocks. No condition. -/
namespace Go.Proofs.YtdojmjglnlkmoaaDoor
set_option linter.unusedVariables false
set_option linter.unusedSimpArgs false
set_option linter.constructorNameAsVariable false
open Go.RowKit Go.Sort

def ndL (h : Nat) (a b : List Int) : List Int := beL 1 2 ++ beL 1 h ++ a ++ b
def ndH (h : Nat) (a b : List Int) : List Int := hsh (ndL h a b)
def empH : Nat → List Int
  | 0 => hsh [0]
  | k + 1 => ndH (k + 1) (empH k) (empH k)
theorem ndL_len {h : Nat} {a b : List Int} (ha : a.length = 32) (hb : b.length = 32) : (ndL h a b).length = 66 := by simp [ndL, beL_len, ha, hb]
theorem ndL_byt {h : Nat} {a b : List Int} (ha : Byt a) (hb : Byt b) : Byt (ndL h a b) := by
  intro x hx
  simp only [ndL, List.mem_append] at hx
  rcases hx with ((hx | hx) | hx) | hx
  · exact beL_byt _ _ x hx
  · exact beL_byt _ _ x hx
  · exact ha x hx
  · exact hb x hx
theorem ndH_len (h : Nat) (a b : List Int) : (ndH h a b).length = 32 := hsh_len _
theorem ndH_byt (h : Nat) (a b : List Int) : Byt (ndH h a b) := hsh_byt _
theorem empH_len (k : Nat) : (empH k).length = 32 := by cases k <;> exact hsh_len _
theorem empH_byt (k : Nat) : Byt (empH k) := by cases k <;> exact hsh_byt _
theorem ndL_eq {h : Nat} (hh : h < 256) (a b : List Int) : ndL h a b = [2, (h : Int)] ++ a ++ b := by
  have e2 : beL 1 2 = [2] := by decide
  have e1 : beL 1 h = [(h : Int)] := by
    rw [beL_cons 0 h, beL_zero]
    simp only [byteAt]
    rw [Nat.pow_zero, Nat.div_one, Nat.mod_eq_of_lt hh]
  rw [ndL, e1, e2]
  rfl
/-- The first k roots, and zeros. -/
def empA (k : Nat) : List Int := ((List.range k).map empH).flatten ++ List.replicate (32 * (33 - k)) 0
theorem flat_len (f : Nat → List Int) (hf : ∀ i, (f i).length = 32) (k : Nat) : (((List.range k).map f).flatten).length = 32 * k := by
  induction k with
  | zero => rfl
  | succ k ih => rw [List.range_succ, List.map_append, List.flatten_append, List.length_append, ih]; simp [hf]; omega
theorem empA_len {k : Nat} (h : k ≤ 33) : (empA k).length = 1056 := by rw [empA, List.length_append, flat_len _ empH_len, List.length_replicate]; omega
theorem empA_byt (k : Nat) : Byt (empA k) := by
  intro x hx
  simp only [empA, List.mem_append, List.mem_flatten, List.mem_map] at hx
  rcases hx with ⟨l, ⟨i, -, rfl⟩, hx⟩ | hx
  · exact empH_byt i x hx
  · have := List.eq_of_mem_replicate hx
    omega
theorem empA_at {k i : Nat} (hi : i < k) : ((empA k).drop (32 * i)).take 32 = empH i := by
  have h1 : ∀ k, i < k → ((((List.range k).map empH).flatten).drop (32 * i)).take 32 = empH i := by
    intro k
    induction k with
    | zero => intro h; omega
    | succ k ih =>
      intro h
      rw [List.range_succ, List.map_append, List.flatten_append]
      by_cases hk : i = k
      · subst hk
        rw [List.drop_append_of_le_length (by rw [flat_len _ empH_len]; omega), List.drop_of_length_le (by rw [flat_len _ empH_len]; omega)]
        simp [List.take_of_length_le, empH_len]
      · rw [List.drop_append_of_le_length (by rw [flat_len _ empH_len]; omega), List.take_append_of_le_length (by rw [List.length_drop, flat_len _ empH_len]; omega)]
        exact ih (by omega)
  unfold empA
  rw [List.drop_append_of_le_length (by rw [flat_len _ empH_len]; omega), List.take_append_of_le_length (by rw [List.length_drop, flat_len _ empH_len]; omega)]
  exact h1 k hi
theorem empA_step {k : Nat} (h : k < 33) : splice (u8s (empA k)) (32 * k) (u8s (empH k)) = u8s (empA (k + 1)) := by
  unfold splice u8s
  rw [List.length_map, empH_len, ← List.map_take, ← List.map_drop, ← List.map_append, ← List.map_append]
  congr 1
  unfold empA
  rw [List.take_append_of_le_length (by rw [flat_len _ empH_len]; omega), List.take_of_length_le (by rw [flat_len _ empH_len]; omega), List.drop_append, flat_len _ empH_len, List.drop_of_length_le (by rw [flat_len _ empH_len]; omega), List.drop_replicate, List.range_succ, List.map_append, List.flatten_append]
  rw [show 32 * (33 - k) - (32 * k + 32 - 32 * k) = 32 * (33 - (k + 1)) by omega]
  simp
end Go.Proofs.YtdojmjglnlkmoaaDoor
