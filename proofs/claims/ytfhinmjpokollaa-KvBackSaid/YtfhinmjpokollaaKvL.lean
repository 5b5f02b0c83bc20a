/- The reference: a table's size, a key's value. No condition but that they can be read. -/
import Derived.Test.YtfhinmjpokollaaKvK
namespace Go.Proofs.Ytfhinmjpokollaa
set_option linter.unusedVariables false
set_option linter.unusedSimpArgs false
set_option linter.constructorNameAsVariable false
open Go.RowKit Go.Maps Go.Sort

def rsz (L : List Ch) : Nat := (L.map fun c => 4 + c.k.n + c.v.n).sum
theorem rsz_take {L : List Ch} {k : Nat} (h : k < L.length) : rsz (L.take (k + 1)) = rsz (L.take k) + (4 + L[k].k.n + L[k].v.n) := by
  unfold rsz
  rw [List.take_succ_eq_append_getElem h, List.map_append, List.sum_append]
  simp only [List.map_cons, List.map_nil, List.sum_cons, List.sum_nil, Nat.add_zero]
theorem rsz_le {L : List Ch} (h : ∀ c ∈ L, c.k.n ≤ 16 ∧ c.v.n ≤ 16384) (k : Nat) (hk : k ≤ L.length) : rsz (L.take k) ≤ k * 16404 := by
  induction k with
  | zero => simp [rsz]
  | succ k ih =>
    rw [rsz_take (by omega)]
    have := h L[k] (List.getElem_mem _)
    have := ih (by omega)
    omega
set_option maxRecDepth 100000 in
set_option maxHeartbeats 2000000 in
theorem rsize_any {P : Nat → Prop} (A : Option Addr) (n c : Nat) (L : List Ch) (w : World) (h : Rd P w 3 A n (L.flatMap Ch.cells)) (hL : L.length = n) (hn : n ≤ 100000000) (hb : ∀ c ∈ L, c.k.n ≤ 16 ∧ c.v.n ≤ 16384) :
    Calls Try.prog 40 #[.slice A n c] w fun e w' => e = .returned (.int .i64 (rsz L)) ∧ New w w' := by
  have HR := Lib.hid h
  have HL := Lib.hid hL
  have HB := Lib.hid hb
  clear h hL hb
  go_enter Try.func40, Try.ntmps40
  go_wp2_with fail
  go_loopw [3, 4] (fun s i wr => ∃ j : Nat, j ≤ n ∧ i = .int .i64 j ∧ s = .int .i64 (rsz (L.take j)) ∧ Hid (New w wr)) (fun s i _ => n - (intOf i).toNat)
  case atStart => exact ⟨0, Nat.zero_le _, rfl, by simp [rsz], Lib.hid (New.refl w)⟩
  case round =>
    obtain ⟨j, hj, rfl, rfl, HN⟩ := hrel
    by_cases hlt : j < n
    · as_aux_lemma =>
      obtain ⟨g, o, hl, rfl, -, -, hrg⟩ := rd_row (f := Ch.cells) (L := L) (fun _ => rfl) (by omega) (HN.out.rd HR.out) hlt
      have c0 : wr.cell? ⟨g, o + j * 3, none⟩ = some (.slice L[j].k.A L[j].k.n L[j].k.c) := hrg 0 _ rfl
      have c1 : wr.cell? ⟨g, o + j * 3 + 1, none⟩ = some (.slice L[j].v.A L[j].v.n L[j].v.c) := hrg 1 _ rfl
      have hbd := HB.out L[j] (List.getElem_mem _)
      have hst := rsz_take hl
      have hle := rsz_le HB.out j (by omega)
      generalize L[j] = x at c0 c1 hst hbd
      generalize rsz (L.take j) = s at hst hle ⊢
      obtain ⟨⟨kA, kn, kc, ks⟩, ⟨vA, vn, vc, vs⟩, d⟩ := x
      dsimp only at c0 c1 hbd hst
      have HST := Lib.hid hst
      have hj0 : (0 : Int) ≤ (j : Int) := by omega
      have hjn : (j : Int) < (n : Int) := by omega
      obtain ⟨hb1, hb2⟩ := hbd
      have hs : s ≤ 100000000 * 16404 := by omega
      clear hrg hl hst hle
      go_wp2_with fail
      go_quiet (fail)
      go_wp2_with fail
      go_roundw
      case rel =>
        refine ⟨j + 1, by omega, by go_num, ?_, Lib.hid (New.dn HN.out _)⟩
        rw [HST.out]
        go_num
      case measure => simp [intOf]; omega
    · as_aux_lemma =>
      obtain rfl : j = n := by omega
      go_wp2_with fail
      go_ret
      have ht : L.take j = L := by rw [← HL.out, List.take_length]
      rw [ht]
      exact ⟨rfl, HN.out⟩
/-- What the reference finds. -/
def rfind (L : List Ch) (k : List Int) : Option Fm := (L.find? fun c => decide (c.k.xs = k)).map Ch.v
def oval (o : Option Fm) : Value := match o with | none => .slice none 0 0 | some v => v.val
theorem find_take {L : List Ch} {p : Ch → Bool} {j : Nat} (h : j < L.length) (h0 : (L.take j).find? p = none) : (L.take (j + 1)).find? p = if p L[j] then some L[j] else none := by
  rw [List.take_succ_eq_append_getElem h, List.find?_append, h0]
  simp [List.find?_cons]
  cases p L[j] <;> rfl
theorem find_of_take {L : List Ch} {p : Ch → Bool} {j : Nat} {x : Ch} (h : (L.take j).find? p = some x) : L.find? p = some x := by
  rw [← List.take_append_drop j L, List.find?_append, h]
  rfl
set_option maxRecDepth 100000 in
set_option maxHeartbeats 2000000 in
theorem rget_any {P q : Nat → Prop} (A : Option Addr) (n c : Nat) (L : List Ch) (B : Option Addr) (m d : Nat) (ys : List Int) (w : World) (h : Rd P w 3 A n (L.flatMap Ch.cells)) (hL : L.length = n) (hn : n ≤ 100000000) (hb : ∀ c ∈ L, c.In P w) (hy : Rd q w 1 B m (u8s ys)) (hyb : Byt ys) :
    Calls Try.prog 20 #[.slice A n c, .slice B m d] w fun e w' => e = .returned (.tuple #[oval (rfind L ys), .bool (rfind L ys).isSome]) ∧ New w w' := by
  have HR := Lib.hid h
  have HL := Lib.hid hL
  have HB := Lib.hid hb
  have HY := Lib.hid hy
  clear h hL hb hy
  go_enter Try.func20, Try.ntmps20
  go_wp2_with fail
  go_loopw [6] (fun i wr => ∃ j : Nat, j ≤ n ∧ i = .int .i64 j ∧ Hid ((L.take j).find? (fun c => decide (c.k.xs = ys)) = none) ∧ Hid (New w wr)) (fun i _ => n - (intOf i).toNat)
  case atStart => exact ⟨0, Nat.zero_le _, rfl, Lib.hid (by simp), Lib.hid (New.refl w)⟩
  case round =>
    obtain ⟨j, hj, rfl, HF, HN⟩ := hrel
    by_cases hlt : j < n
    · as_aux_lemma =>
      obtain ⟨g, o, hl, rfl, -, -, hrg⟩ := rd_row (f := Ch.cells) (L := L) (fun _ => rfl) (by omega) (HN.out.rd HR.out) hlt
      have c0 : wr.cell? ⟨g, o + j * 3, none⟩ = some (.slice L[j].k.A L[j].k.n L[j].k.c) := hrg 0 _ rfl
      have c1 : wr.cell? ⟨g, o + j * 3 + 1, none⟩ = some (.slice L[j].v.A L[j].v.n L[j].v.c) := hrg 1 _ rfl
      have hin := HB.out L[j] (List.getElem_mem _)
      have hst := find_take hl HF.out
      generalize L[j] = x at c0 c1 hst hin
      obtain ⟨⟨kA, kn, kc, ks⟩, ⟨vA, vn, vc, vs⟩, dd⟩ := x
      dsimp only at c0 c1 hst hin
      have hk1 := fun q => run_conv (c := kc) (w := wr.drewN q) (HN.out.rd hin.k.rd)
      have hk2 := fun q => run_conv (c := d) (w := wr.drewN q) (HN.out.rd HY.out)
      have h3 := str_inj hin.k.byt hyb
      dsimp only at hk1 h3
      generalize strOfNums ks = s1 at hk1 h3
      generalize strOfNums ys = s2 at hk2 h3
      obtain ⟨r, hr⟩ : ∃ r, r = decide (ks = ys) := ⟨_, rfl⟩
      rw [← hr] at h3 hst
      have HST := Lib.hid hst
      have hj0 : (0 : Int) ≤ (j : Int) := by omega
      have hjn : (j : Int) < (n : Int) := by omega
      clear hrg hl hst hin hr
      go_wp2_with fail
      go_quiet (fail)
      cases r
      · go_wp2_with fail
        go_roundw
        case rel => exact ⟨j + 1, by omega, by go_num, Lib.hid HST.out, Lib.hid (New.dn HN.out _)⟩
        case measure => simp [intOf]; omega
      · go_wp2_with fail
        go_ret2
        have hf : rfind L ys = some ⟨vA, vn, vc, vs⟩ := by
          unfold rfind
          rw [find_of_take HST.out]
          rfl
        rw [hf]
        exact ⟨rfl, New.dn HN.out _⟩
    · as_aux_lemma =>
      obtain rfl : j = n := by omega
      go_wp2_with fail
      go_ret2
      have ht : L.take j = L := by rw [← HL.out, List.take_length]
      have hf := HF.out
      rw [ht] at hf
      have hf2 : rfind L ys = none := by
        unfold rfind
        rw [hf]
        rfl
      rw [hf2]
      exact ⟨rfl, HN.out⟩
end Go.Proofs.Ytfhinmjpokollaa
