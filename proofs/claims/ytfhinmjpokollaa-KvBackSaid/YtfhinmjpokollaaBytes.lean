/- Slices of bytes: as strings, held against each other, cloned. No condition but that they can be read. -/
import Derived.Test.YtfhinmjpokollaaNew
import Derived.Test.YtfhinmjpokollaaRows
import Derived.Laws.BytesArg
namespace Go.Proofs.Ytfhinmjpokollaa
set_option linter.unusedVariables false
set_option linter.unusedSimpArgs false
set_option linter.constructorNameAsVariable false
open Go.RowKit

def u8s (xs : List Int) : List Value := xs.map (Value.int .u8)
theorem u8s_len (xs : List Int) : (u8s xs).length = xs.length := by simp [u8s]
theorem u8s_one (xs : List Int) : ∀ u ∈ u8s xs, u.oneCell' = true := by
  intro u hu
  simp only [u8s, List.mem_map] at hu
  obtain ⟨x, _, rfl⟩ := hu
  rfl
def Byt (xs : List Int) : Prop := ∀ x ∈ xs, 0 ≤ x ∧ x < 256
theorem elB : ElemOf Try.prog 39 5 1 1 := ElemOf.mk' (z := .int .u8 0) Try.underlying39 (by kernel_rfl) rfl (by decide)

theorem str_inj {xs ys : List Int} (hx : Byt xs) (hy : Byt ys) : ((strOfNums xs).toList == (strOfNums ys).toList) = decide (xs = ys) := by
  rw [ByteArray.toList_eq, ByteArray.toList_eq, strOfNums_data, strOfNums_data, Bool.eq_iff_iff, decide_eq_true_iff, beq_iff_eq]
  constructor
  · intro h2
    induction xs generalizing ys with
    | nil => cases ys <;> simp at h2 ⊢
    | cons x xs ih =>
      cases ys with
      | nil => simp at h2
      | cons y ys =>
        simp only [List.map_cons, List.cons.injEq] at h2
        obtain ⟨hx0, hx1⟩ := hx x (by simp)
        obtain ⟨hy0, hy1⟩ := hy y (by simp)
        have e : x = y := by
          have := congrArg UInt8.toNat h2.1
          simp [UInt8.toNat_ofNat'] at this
          omega
        rw [e, ih (fun z hz => hx z (by simp [hz])) (fun z hz => hy z (by simp [hz])) h2.2]
  · rintro rfl
    rfl

/-- The bytes as a string. -/
theorem run_conv {p : Nat → Prop} {w : World} {A : Option Addr} {n c : Nat} {xs : List Int} (h : Rd p w 1 A n (u8s xs)) : (convert 39 9 (.slice A n c)).run Try.prog w = .ok (.string (strOfNums xs)) w := by
  have hl : xs.length = n := by have := h.1; rw [u8s_len] at this; omega
  rcases Nat.eq_zero_or_pos n with h0 | h0
  · subst h0
    have hz : xs = [] := List.eq_nil_of_length_eq_zero hl
    subst hz
    rcases A with _ | ad
    · exact run_convert_bytes_nil w 39 5 Try.underlying39 Try.underlying5 0 c 9 Try.underlying9
    · rw [run_convert_bytes_string w 39 9 5 _ 0 c Try.underlying39 Try.underlying5 Try.underlying9, run_bytesToString w ad 0 c [] rfl]
      rfl
  · obtain ⟨g, o, rfl, -, -, hc⟩ := h.out h0 (by omega)
    refine run_convert_bytes_arg w 39 5 Try.underlying39 Try.underlying5 g o n c xs hl (fun i hi => ?_) 9 Try.underlying9
    refine hc i _ ?_
    have hi' : i < xs.length := by omega
    simp [u8s, hi']

theorem bytes_any {p q : Nat → Prop} (A B : Option Addr) (n m c d : Nat) (xs ys : List Int) (w : World) (hx : Rd p w 1 A n (u8s xs)) (hy : Rd q w 1 B m (u8s ys)) (bx : Byt xs) (by_ : Byt ys) :
    Calls Try.prog 21 #[.slice A n c, .slice B m d] w fun e w' => e = .returned (.bool (decide (xs = ys))) ∧ w = w' := by
  have h1 := run_conv (c := c) hx
  have h2 := run_conv (c := d) hy
  have h3 := str_inj bx by_
  generalize strOfNums xs = s1 at h1 h3
  generalize strOfNums ys = s2 at h2 h3
  generalize decide (xs = ys) = r at h3 ⊢
  clear hx hy bx by_
  go_enter Try.func21, Try.ntmps21
  go_wp2_with fail
  go_ret
  exact ⟨rfl, rfl⟩
theorem equal_any {p q : Nat → Prop} (A B : Option Addr) (n m c d : Nat) (xs ys : List Int) (w : World) (hx : Rd p w 1 A n (u8s xs)) (hy : Rd q w 1 B m (u8s ys)) (bx : Byt xs) (by_ : Byt ys) :
    Calls Try.prog 35 #[.slice A n c, .slice B m d] w fun e w' => e = .returned (.bool (decide (xs = ys))) ∧ w = w' := by
  have h1 := run_conv (c := c) hx
  have h2 := run_conv (c := d) hy
  have h3 := str_inj bx by_
  generalize strOfNums xs = s1 at h1 h3
  generalize strOfNums ys = s2 at h2 h3
  generalize decide (xs = ys) = r at h3 ⊢
  clear hx hy bx by_
  go_enter Try.func35, Try.ntmps35
  go_wp2_with fail
  go_ret
  exact ⟨rfl, rfl⟩
theorem bclone_any (A : Option Addr) (n c : Nat) (xs : List Int) (w : World) (hO : Rd (fun b => b < w.heap.size) w 1 A n (u8s xs)) (hn : n ≤ 1000000) :
    Calls Try.prog 39 #[.slice A n c] w fun e w' => (∃ A' c', e = .returned (.slice A' n c') ∧ w'.ownsRow w.heap.size 5 1 (.slice A' n c') n (u8s xs)) ∧ New w w' := by
  have HR := Lib.hid hO
  rcases A with _ | ad
  · have h0 : n = 0 := by
      rcases Nat.eq_zero_or_pos n with h | h
      · exact h
      · obtain ⟨ad, h', _⟩ := hO.2 h
        cases h'
    subst h0
    have hz : xs = [] := List.eq_nil_of_length_eq_zero (by have := hO.1; rw [u8s_len] at this; omega)
    subst hz
    clear hO
    have hen := fun w => Lib.run_eql_slice_nil (P := Try.prog) w 39 5 none 0 c 0 0 Try.underlying39
    go_enter Try.func39, Try.ntmps39
    go_wp2_with fail
    go_ret
    exact ⟨⟨none, 0, rfl, World.ownsRow_nil _ _ _ _⟩, New.refl w⟩
  · clear hO
    have hen := fun w => Lib.run_eql_slice_nil (P := Try.prog) w 39 5 (some ad) n c 0 0 Try.underlying39
    go_enter Try.func39, Try.ntmps39
    go_wp2_with (at_builtin; refine wpList_app elB _ rfl (.tmp 5) (.tmp 6) rfl w.heap.size (.slice (some ⟨w.heap.size, 0, none⟩) 0 0) 0 [] rfl (own_lit (Blk.new w 5 #[]) (Nat.le_refl _)) (some ad) n c (u8s xs) rfl (New.rd (New.al (New.refl w) _) HR.out) (u8s_one xs) (by unfold maxLen; omega) (by omega) (by simp) ?_; intro A1 d1 w3 hO3 hF3 hA3; rw [Nat.zero_add]; rw [Nat.zero_add, List.nil_append] at hO3; have HO3 := Lib.hid hO3; have HN3 : Hid (New w w3) := Lib.hid ((New.al (New.refl w) _).fr hF3 (by intro k hk; simp [Value.ownBlock] at hk; omega)); clear hO3 hF3 hA3)
    go_ret
    exact ⟨⟨A1, d1, rfl, HO3.out⟩, HN3.out⟩
end Go.Proofs.Ytfhinmjpokollaa
