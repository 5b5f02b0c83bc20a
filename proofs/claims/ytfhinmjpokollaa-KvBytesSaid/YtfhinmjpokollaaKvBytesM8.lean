/- Texts of one proof, one behind the other: KvL, KvM, KvN, KvO. No condition but each one's own. -/
import Derived.Test.YtfhinmjpokollaaKvBytesM7
/- The reference: a table's size, a key's value. No condition but that they can be read. -/
namespace Go.Proofs.Ytfhinmjpokollaa
set_option linter.unusedVariables false
set_option linter.unusedSimpArgs false
set_option linter.constructorNameAsVariable false
open Go.RowKit Go.Maps Go.Sort

def rsz (L : List Ch) : Nat := (L.map fun c => 4 + c.k.n + c.v.n).sum
theorem rsz_take {L : List Ch} {k : Nat} (h : k < L.length) : rsz (L.take (k + 1)) = rsz (L.take k) + (4 + L[k].k.n + L[k].v.n) := by
  unfold rsz
  rw [List.take_succ_eq_append_getElem h, List.map_append, List.sum_append]
  simp only [List.map_cons, List.map_nil, List.sum_cons, List.sum_nil, Nat.add_zero]
theorem rsz_le {L : List Ch} (h : ∀ c ∈ L, c.k.n ≤ 16 ∧ c.v.n ≤ 16384) (k : Nat) (hk : k ≤ L.length) : rsz (L.take k) ≤ k * 16404 := by
  induction k with
  | zero => simp [rsz]
  | succ k ih =>
    rw [rsz_take (by omega)]
    have := h L[k] (List.getElem_mem _)
    have := ih (by omega)
    omega
set_option maxRecDepth 100000 in
set_option maxHeartbeats 2000000 in
theorem rsize_any {P : Nat → Prop} (A : Option Addr) (n c : Nat) (L : List Ch) (w : World) (h : Rd P w 3 A n (L.flatMap Ch.cells)) (hL : L.length = n) (hn : n ≤ 100000000) (hb : ∀ c ∈ L, c.k.n ≤ 16 ∧ c.v.n ≤ 16384) :
    Calls Try.prog 40 #[.slice A n c] w fun e w' => e = .returned (.int .i64 (rsz L)) ∧ New w w' := by
  have HR := Lib.hid h
  have HL := Lib.hid hL
  have HB := Lib.hid hb
  clear h hL hb
  go_enter Try.func40, Try.ntmps40
  go_wp2_with fail
  go_loopw [3, 4] (fun s i wr => ∃ j : Nat, j ≤ n ∧ i = .int .i64 j ∧ s = .int .i64 (rsz (L.take j)) ∧ Hid (New w wr)) (fun s i _ => n - (intOf i).toNat)
  case atStart => exact ⟨0, Nat.zero_le _, rfl, by simp [rsz], Lib.hid (New.refl w)⟩
  case round =>
    obtain ⟨j, hj, rfl, rfl, HN⟩ := hrel
    by_cases hlt : j < n
    · as_aux_lemma =>
      obtain ⟨g, o, hl, rfl, -, -, hrg⟩ := rd_row (f := Ch.cells) (L := L) (fun _ => rfl) (by omega) (HN.out.rd HR.out) hlt
      have c0 : wr.cell? ⟨g, o + j * 3, none⟩ = some (.slice L[j].k.A L[j].k.n L[j].k.c) := hrg 0 _ rfl
      have c1 : wr.cell? ⟨g, o + j * 3 + 1, none⟩ = some (.slice L[j].v.A L[j].v.n L[j].v.c) := hrg 1 _ rfl
      have hbd := HB.out L[j] (List.getElem_mem _)
      have hst := rsz_take hl
      have hle := rsz_le HB.out j (by omega)
      generalize L[j] = x at c0 c1 hst hbd
      generalize rsz (L.take j) = s at hst hle ⊢
      obtain ⟨⟨kA, kn, kc, ks⟩, ⟨vA, vn, vc, vs⟩, d⟩ := x
      dsimp only at c0 c1 hbd hst
      have HST := Lib.hid hst
      have hj0 : (0 : Int) ≤ (j : Int) := by omega
      have hjn : (j : Int) < (n : Int) := by omega
      obtain ⟨hb1, hb2⟩ := hbd
      have hs : s ≤ 100000000 * 16404 := by omega
      clear hrg hl hst hle
      go_wp2_with fail
      go_quiet (fail)
      go_wp2_with fail
      go_roundw
      case rel =>
        refine ⟨j + 1, by omega, by go_num, ?_, Lib.hid (New.dn HN.out _)⟩
        rw [HST.out]
        go_num
      case measure => simp [intOf]; omega
    · as_aux_lemma =>
      obtain rfl : j = n := by omega
      go_wp2_with fail
      go_ret
      have ht : L.take j = L := by rw [← HL.out, List.take_length]
      rw [ht]
      exact ⟨rfl, HN.out⟩
/-- What the reference finds. -/
def rfind (L : List Ch) (k : List Int) : Option Fm := (L.find? fun c => decide (c.k.xs = k)).map Ch.v
def oval (o : Option Fm) : Value := match o with | none => .slice none 0 0 | some v => v.val
theorem find_take {L : List Ch} {p : Ch → Bool} {j : Nat} (h : j < L.length) (h0 : (L.take j).find? p = none) : (L.take (j + 1)).find? p = if p L[j] then some L[j] else none := by
  rw [List.take_succ_eq_append_getElem h, List.find?_append, h0]
  simp [List.find?_cons]
  cases p L[j] <;> rfl
theorem find_of_take {L : List Ch} {p : Ch → Bool} {j : Nat} {x : Ch} (h : (L.take j).find? p = some x) : L.find? p = some x := by
  rw [← List.take_append_drop j L, List.find?_append, h]
  rfl
set_option maxRecDepth 100000 in
set_option maxHeartbeats 2000000 in
theorem rget_any {P q : Nat → Prop} (A : Option Addr) (n c : Nat) (L : List Ch) (B : Option Addr) (m d : Nat) (ys : List Int) (w : World) (h : Rd P w 3 A n (L.flatMap Ch.cells)) (hL : L.length = n) (hn : n ≤ 100000000) (hb : ∀ c ∈ L, c.In P w) (hy : Rd q w 1 B m (u8s ys)) (hyb : Byt ys) :
    Calls Try.prog 20 #[.slice A n c, .slice B m d] w fun e w' => e = .returned (.tuple #[oval (rfind L ys), .bool (rfind L ys).isSome]) ∧ New w w' := by
  have HR := Lib.hid h
  have HL := Lib.hid hL
  have HB := Lib.hid hb
  have HY := Lib.hid hy
  clear h hL hb hy
  go_enter Try.func20, Try.ntmps20
  go_wp2_with fail
  go_loopw [6] (fun i wr => ∃ j : Nat, j ≤ n ∧ i = .int .i64 j ∧ Hid ((L.take j).find? (fun c => decide (c.k.xs = ys)) = none) ∧ Hid (New w wr)) (fun i _ => n - (intOf i).toNat)
  case atStart => exact ⟨0, Nat.zero_le _, rfl, Lib.hid (by simp), Lib.hid (New.refl w)⟩
  case round =>
    obtain ⟨j, hj, rfl, HF, HN⟩ := hrel
    by_cases hlt : j < n
    · as_aux_lemma =>
      obtain ⟨g, o, hl, rfl, -, -, hrg⟩ := rd_row (f := Ch.cells) (L := L) (fun _ => rfl) (by omega) (HN.out.rd HR.out) hlt
      have c0 : wr.cell? ⟨g, o + j * 3, none⟩ = some (.slice L[j].k.A L[j].k.n L[j].k.c) := hrg 0 _ rfl
      have c1 : wr.cell? ⟨g, o + j * 3 + 1, none⟩ = some (.slice L[j].v.A L[j].v.n L[j].v.c) := hrg 1 _ rfl
      have hin := HB.out L[j] (List.getElem_mem _)
      have hst := find_take hl HF.out
      generalize L[j] = x at c0 c1 hst hin
      obtain ⟨⟨kA, kn, kc, ks⟩, ⟨vA, vn, vc, vs⟩, dd⟩ := x
      dsimp only at c0 c1 hst hin
      have hk1 := fun q => run_conv (c := kc) (w := wr.drewN q) (HN.out.rd hin.k.rd)
      have hk2 := fun q => run_conv (c := d) (w := wr.drewN q) (HN.out.rd HY.out)
      have h3 := str_inj hin.k.byt hyb
      dsimp only at hk1 h3
      generalize strOfNums ks = s1 at hk1 h3
      generalize strOfNums ys = s2 at hk2 h3
      obtain ⟨r, hr⟩ : ∃ r, r = decide (ks = ys) := ⟨_, rfl⟩
      rw [← hr] at h3 hst
      have HST := Lib.hid hst
      have hj0 : (0 : Int) ≤ (j : Int) := by omega
      have hjn : (j : Int) < (n : Int) := by omega
      clear hrg hl hst hin hr
      go_wp2_with fail
      go_quiet (fail)
      cases r
      · go_wp2_with fail
        go_roundw
        case rel => exact ⟨j + 1, by omega, by go_num, Lib.hid HST.out, Lib.hid (New.dn HN.out _)⟩
        case measure => simp [intOf]; omega
      · go_wp2_with fail
        go_ret2
        have hf : rfind L ys = some ⟨vA, vn, vc, vs⟩ := by
          unfold rfind
          rw [find_of_take HST.out]
          rfl
        rw [hf]
        exact ⟨rfl, New.dn HN.out _⟩
    · as_aux_lemma =>
      obtain rfl : j = n := by omega
      go_wp2_with fail
      go_ret2
      have ht : L.take j = L := by rw [← HL.out, List.take_length]
      have hf := HF.out
      rw [ht] at hf
      have hf2 : rfind L ys = none := by
        unfold rfind
        rw [hf]
        rfl
      rw [hf2]
      exact ⟨rfl, HN.out⟩
end Go.Proofs.Ytfhinmjpokollaa
/- The law's Document: the changes as the reference's. No condition but that they can be read. -/
namespace Go.Proofs.Ytfhinmjpokollaa
set_option linter.unusedVariables false
set_option linter.unusedSimpArgs false
set_option linter.constructorNameAsVariable false
open Go.RowKit Go.Maps Go.Sort

def ch0 : Ch := ⟨⟨none, 0, 0, []⟩, ⟨none, 0, 0, []⟩, false⟩
theorem elD : ElemOf Try.prog 26 49 3 56 := ElemOf.mk' (z := .agg ch0.cells.toArray) Try.underlying26 (by kernel_rfl) rfl (by decide)
theorem cells_one (c : Ch) : ∀ u ∈ c.cells, u.oneCell' = true := by
  intro u hu
  simp [Ch.cells] at hu
  rcases hu with rfl | rfl | rfl <;> rfl
theorem flat_take {L : List Ch} {k : Nat} (h : k < L.length) : (L.take (k + 1)).flatMap Ch.cells = (L.take k).flatMap Ch.cells ++ L[k].cells := by
  rw [List.take_succ_eq_append_getElem h, List.flatMap_append]
  simp
set_option maxRecDepth 100000 in
set_option maxHeartbeats 4000000 in
theorem doc_any {P : Nat → Prop} (A : Option Addr) (n c : Nat) (L : List Ch) (w : World) (h : Rd P w 3 A n (L.flatMap Ch.cells)) (hL : L.length = n) (hn : n ≤ 100000000) :
    Calls Try.prog 13 #[.slice A n c] w fun e w' => (∃ A' c', e = .returned (.slice A' n c') ∧ w'.ownsRow w.heap.size 49 3 (.slice A' n c') n (L.flatMap Ch.cells)) ∧ New w w' := by
  have HR := Lib.hid h
  have HL := Lib.hid hL
  clear h hL
  go_enter Try.func13, Try.ntmps13
  go_wp2_with fail
  go_loopw [3, 8] (fun s i wr => ∃ (j : Nat) (A' : Option Addr) (c' : Nat), j ≤ n ∧ i = .int .i64 j ∧ s = .slice A' j c' ∧ Hid (wr.ownsRow w.heap.size 49 3 (.slice A' j c') j ((L.take j).flatMap Ch.cells)) ∧ Hid (New w wr)) (fun s i _ => n - (intOf i).toNat)
  case atStart => exact ⟨0, none, 0, Nat.zero_le _, rfl, rfl, Lib.hid (World.ownsRow_nil _ _ _ _), Lib.hid (New.refl w)⟩
  case round =>
    obtain ⟨j, A', c', hj, rfl, rfl, HO, HN⟩ := hrel
    by_cases hlt : j < n
    · as_aux_lemma =>
      obtain ⟨g, o, hl, rfl, -, -, hrg⟩ := rd_row (f := Ch.cells) (L := L) (fun _ => rfl) (by omega) (HN.out.rd HR.out) hlt
      have c0 : wr.cell? ⟨g, o + j * 3, none⟩ = some (.slice L[j].k.A L[j].k.n L[j].k.c) := hrg 0 _ rfl
      have c1 : wr.cell? ⟨g, o + j * 3 + 1, none⟩ = some (.slice L[j].v.A L[j].v.n L[j].v.c) := hrg 1 _ rfl
      have c2 : wr.cell? ⟨g, o + j * 3 + 2, none⟩ = some (.bool L[j].d) := hrg 2 _ rfl
      have hst := flat_take hl
      have hone := cells_one L[j]
      generalize L[j] = x at c0 c1 c2 hst hone
      obtain ⟨⟨kA, kn, kc, ks⟩, ⟨vA, vn, vc, vs⟩, dd⟩ := x
      rw [show Ch.cells ⟨⟨kA, kn, kc, ks⟩, ⟨vA, vn, vc, vs⟩, dd⟩ = [.slice kA kn kc, .slice vA vn vc, .bool dd] from rfl] at hst hone
      dsimp only at c0 c1 c2 hst hone
      have HST := Lib.hid hst
      have HONE := Lib.hid hone
      have hj0 : (0 : Int) ≤ (j : Int) := by omega
      have hjn : (j : Int) < (n : Int) := by omega
      have hs0 := HN.out.size
      clear hrg hl hst hone
      go_wp2_with (first
        | ((with_reducible refine atOpS ⟨some 14, .buildSlice _ _ _, _, _, _, _⟩ ?_); refine wpList_bs1 elD (by decide) rfl (.tmp 13) rfl #[.slice kA kn kc, .slice vA vn vc, .bool dd] rfl rfl ?_)
        | (at_builtin; refine atOpS ⟨some 15, _, _, _, _, _⟩ ?_; refine stopHere ?_))
      refine ⟨?_⟩
      refine wpList_app (o := ⟨some 15, _, _, _, _, _⟩) elD _ rfl (.tmp 12) (.tmp 14) rfl w.heap.size (.slice A' j c') j ((L.take j).flatMap Ch.cells) rfl (New.own (New.al (New.al (New.refl wr) _) _) HO.out) (some ⟨wr.heap.size + 1, 0, none⟩) 1 1 [.slice kA kn kc, .slice vA vn vc, .bool dd] rfl (Rd.ofBlk (p := fun _ => True) (Blk.new' _ 49 #[.slice kA kn kc, .slice vA vn vc, .bool dd] (by simp)) 3 1 rfl trivial) HONE.out (by unfold maxLen; omega) (by omega) (by simp; omega) ?_
      intro A2 d2 w3 hO3 hF3 hA3
      rw [← HST.out] at hO3
      have HO3 := Lib.hid hO3
      have HN3 : Hid (New w w3) := Lib.hid ((New.al (New.al HN.out _) _).fr hF3 (fun k hk => (own_lt HO.out k hk).1))
      clear hO3 hF3 hA3
      go_wp2_with fail
      go_roundw
      case rel => exact ⟨j + 1, A2, d2, by omega, by go_num, rfl, HO3, HN3⟩
      case measure => simp [intOf]; omega
    · as_aux_lemma =>
      obtain rfl : j = n := by omega
      go_wp2_with fail
      go_ret
      have ht : L.take j = L := by rw [← HL.out, List.take_length]
      have ho := HO.out
      rw [ht] at ho
      exact ⟨⟨A', c', rfl, ho⟩, HN.out⟩
end Go.Proofs.Ytfhinmjpokollaa
/- The reference's Apply. No condition but that all can be read. -/
namespace Go.Proofs.Ytfhinmjpokollaa
set_option linter.unusedVariables false
set_option linter.unusedSimpArgs false
set_option linter.constructorNameAsVariable false
open Go.RowKit Go.Maps Go.Sort

/-- One round of the reference's Apply; `ge` holds the keys against each other. -/
def rstep (ge : List Int → List Int → Bool) (c : Ch) (s : List Ch × Bool) (x : Ch) : List Ch × Bool :=
  let s1 := if !s.2 && ge x.k.xs c.k.xs then (s.1 ++ [c], true) else s
  (if x.k.xs = c.k.xs then s1.1 else s1.1 ++ [x], s1.2)
/-- The order of strings, as the program asks for it. -/
def geS (xs ys : List Int) : Bool := !Op.bytesLess (strOfNums xs).toList (strOfNums ys).toList
def rfold (ge : List Int → List Int → Bool) (c : Ch) (L : List Ch) : List Ch × Bool := L.foldl (rstep ge c) ([], c.d)
def rapp (ge : List Int → List Int → Bool) (c : Ch) (L : List Ch) : List Ch := if (rfold ge c L).2 then (rfold ge c L).1 else (rfold ge c L).1 ++ [c]
theorem rfold_take {ge : List Int → List Int → Bool} {c : Ch} {L : List Ch} {k : Nat} (h : k < L.length) : rfold ge c (L.take (k + 1)) = rstep ge c (rfold ge c (L.take k)) L[k] := by
  unfold rfold
  rw [List.take_succ_eq_append_getElem h, List.foldl_append]
  rfl
theorem binOp_string_geq (t : TypeId) (a b : ByteArray) : binOp .geq t (.string a) (.string b) = pure (.bool !(Op.bytesLess a.toList b.toList)) := by simp [binOp, Op.stringOp]
theorem elT : ElemOf Try.prog 27 49 3 56 := ElemOf.mk' (z := .agg ch0.cells.toArray) Try.underlying27 (by kernel_rfl) rfl (by decide)

set_option maxRecDepth 100000 in
set_option maxHeartbeats 4000000 in
theorem rapply_any {P q : Nat → Prop} (A : Option Addr) (n c : Nat) (L : List Ch) (y : Ch) (w : World) (h : Rd P w 3 A n (L.flatMap Ch.cells)) (hL : L.length = n) (hn : n ≤ 100000000) (hb : ∀ c ∈ L, c.In P w) (hy : y.In q w) :
    Calls Try.prog 23 #[.slice A n c, .agg y.cells.toArray] w fun e w' => (∃ A' n' c', e = .returned (.slice A' n' c') ∧ n' ≤ 2 * n + 1 ∧ w'.ownsRow (w.heap.size + 1) 49 3 (.slice A' n' c') n' ((rapp geS y L).flatMap Ch.cells)) ∧ New w w' := by
  have HR := Lib.hid h
  have HL := Lib.hid hL
  have HB := Lib.hid hb
  have HY := Lib.hid hy
  obtain ⟨⟨kA, kn, kc, ks⟩, ⟨vA, vn, vc, vs⟩, dd⟩ := y
  clear h hL hb hy
  unfold Ch.cells
  dsimp only
  go_enter Try.func23, Try.ntmps23
  go_wp2_with fail
  obtain ⟨w0, hw0⟩ : ∃ w0 : World, w0 = (w.alloc (.cells #[.slice kA kn kc, .slice vA vn vc, .bool dd] 49)).alloc (.cells #[] 49) := ⟨_, rfl⟩
  obtain ⟨b3, hb3⟩ : ∃ b3, b3 = w.heap.size := ⟨_, rfl⟩
  have HN0 : Hid (New w w0) := Lib.hid (by rw [hw0]; exact New.al (New.al (New.refl _) _) _)
  have HB3 : Hid (Blk w0 b3 49 #[.slice kA kn kc, .slice vA vn vc, .bool dd]) := Lib.hid (by rw [hw0, hb3]; exact (Blk.new _ _ _).alloc _)
  have HO0 : Hid (w0.ownsRow (b3 + 1) 49 3 (.slice (some ⟨b3 + 1, 0, none⟩) 0 0) 0 []) := Lib.hid (by rw [hw0, hb3]; exact own_lit (Blk.new' _ 49 #[] (by simp)) (Nat.le_refl _))
  have HZ : Hid (b3 = w.heap.size ∧ w0.heap.size = b3 + 2) := Lib.hid ⟨hb3, by rw [hw0, hb3]; simp⟩
  rw [← hw0, ← hb3]
  clear hw0 hb3
  go_loopw [5, 6, 7] (fun s d i wr => ∃ (j m : Nat) (A' : Option Addr) (c' : Nat), j ≤ n ∧ i = .int .i64 j ∧ s = .slice A' m c' ∧ d = .bool (rfold geS ⟨⟨kA, kn, kc, ks⟩, ⟨vA, vn, vc, vs⟩, dd⟩ (L.take j)).2 ∧ m ≤ 2 * j ∧ Hid (wr.ownsRow (b3 + 1) 49 3 (.slice A' m c') m ((rfold geS ⟨⟨kA, kn, kc, ks⟩, ⟨vA, vn, vc, vs⟩, dd⟩ (L.take j)).1.flatMap Ch.cells)) ∧ Hid (New w wr) ∧ Hid (Blk wr b3 49 #[.slice kA kn kc, .slice vA vn vc, .bool dd])) (fun s d i _ => n - (intOf i).toNat)
  case atStart => exact ⟨0, 0, _, _, Nat.zero_le _, rfl, rfl, rfl, by omega, HO0, HN0, HB3⟩
  case round =>
    obtain ⟨j, m, A', c', hj, rfl, rfl, rfl, hm, HO, HN, HBB⟩ := hrel
    clear HO0 HN0 HB3
    generalize hfj : rfold geS ⟨⟨kA, kn, kc, ks⟩, ⟨vA, vn, vc, vs⟩, dd⟩ (L.take j) = f at *
    obtain ⟨R, db⟩ := f
    dsimp only at HO ⊢
    have e0 : wr.cell? ⟨b3, 0, none⟩ = some (.slice kA kn kc) := HBB.out.cell 0
    have e1 : wr.cell? ⟨b3, 1, none⟩ = some (.slice vA vn vc) := HBB.out.cell 1
    have e2 : wr.cell? ⟨b3, 2, none⟩ = some (.bool dd) := HBB.out.cell 2
    by_cases hlt : j < n
    · as_aux_lemma =>
      obtain ⟨g, o, hl, rfl, -, -, hrg⟩ := rd_row (f := Ch.cells) (L := L) (fun _ => rfl) (by omega) HR.out hlt
      have v0 : w.cell? ⟨g, o + j * 3, none⟩ = some (.slice L[j].k.A L[j].k.n L[j].k.c) := hrg 0 _ rfl
      have v1 : w.cell? ⟨g, o + j * 3 + 1, none⟩ = some (.slice L[j].v.A L[j].v.n L[j].v.c) := hrg 1 _ rfl
      have v2 : w.cell? ⟨g, o + j * 3 + 2, none⟩ = some (.bool L[j].d) := hrg 2 _ rfl
      have hin := HB.out L[j] (List.getElem_mem _)
      have hst := rfold_take (ge := geS) (c := ⟨⟨kA, kn, kc, ks⟩, ⟨vA, vn, vc, vs⟩, dd⟩) hl
      rw [hfj] at hst
      generalize L[j] = x at v0 v1 v2 hst hin
      obtain ⟨⟨xA, xn, xc, xs⟩, ⟨zA, zn, zc, zs⟩, xd⟩ := x
      dsimp only at v0 v1 v2 hin
      have c0 := New.cell_ HN.out v0
      have c1 := New.cell_ HN.out v1
      have c2 := New.cell_ HN.out v2
      have HV0 := Lib.hid v0
      have HV1 := Lib.hid v1
      have HV2 := Lib.hid v2
      have HIN := Lib.hid hin.k.rd
      clear v0 v1 v2
      unfold rstep at hst
      dsimp only at hst
      have hk1 := fun q => run_conv (c := xc) (w := wr.drewN q) (HN.out.rd hin.k.rd)
      have hk2 := fun q => run_conv (c := kc) (w := wr.drewN q) (HN.out.rd HY.out.k.rd)
      have h3 := str_inj hin.k.byt HY.out.k.byt
      have hg1 := binOp_string_geq 9 (strOfNums xs) (strOfNums ks)
      have hgd : Op.bytesLess (strOfNums xs).toList (strOfNums ks).toList = !geS xs ks := by simp [geS]
      dsimp only at hk1 hk2 h3
      rw [hgd, Bool.not_not] at hg1
      obtain ⟨s1, hs1⟩ : ∃ s1, s1 = strOfNums xs := ⟨_, rfl⟩
      obtain ⟨s2, hs2⟩ : ∃ s2, s2 = strOfNums ks := ⟨_, rfl⟩
      rw [← hs1, ← hs2] at h3 hg1
      simp only [← hs1] at hk1
      simp only [← hs2] at hk2
      have HS1 := Lib.hid hs1
      have HS2 := Lib.hid hs2
      clear hs1 hs2
      obtain ⟨r, hr⟩ : ∃ r, r = geS xs ks := ⟨_, rfl⟩
      obtain ⟨t, ht⟩ : ∃ t, t = decide (xs = ks) := ⟨_, rfl⟩
      rw [← hr] at hg1 hst
      rw [← ht] at h3
      have HST := Lib.hid hst
      have HT := Lib.hid ht
      have hj0 : (0 : Int) ≤ (j : Int) := by omega
      have hjn : (j : Int) < (n : Int) := by omega
      clear hrg hl hst hin hr hgd ht hfj
      go_wp2_with fail
      cases db
      · go_quiet (fail)
        cases r
        · go_wp2_with fail
          go_quiet (fail)
          cases t
          · go_wp2_with (first
              | ((with_reducible refine atOpS ⟨some 50, .buildSlice _ _ _, _, _, _, _⟩ ?_); refine wpList_bs1 elT (by decide) rfl (.tmp 49) rfl #[.slice xA xn xc, .slice zA zn zc, .bool xd] rfl rfl ?_)
              | (at_builtin; refine atOpS ⟨some 51, _, _, _, _, _⟩ ?_; refine stopHere ?_))
            refine ⟨?_⟩
            refine wpList_app (o := ⟨some 51, _, _, _, _, _⟩) elT _ rfl (.tmp 45) (.tmp 50) rfl (b3 + 1) (.slice A' m c') m (R.flatMap Ch.cells) rfl (New.own (New.al (New.dn (New.refl wr) _) _) HO.out) _ 1 1 [.slice xA xn xc, .slice zA zn zc, .bool xd] rfl (Rd.ofBlk (p := fun _ => True) (Blk.new _ 49 #[.slice xA xn xc, .slice zA zn zc, .bool xd]) 3 1 rfl trivial) (cells_one ⟨⟨xA, xn, xc, xs⟩, ⟨zA, zn, zc, zs⟩, xd⟩) (by unfold maxLen; omega) (by omega) (by have := HBB.out.lt; simp; omega) ?_
            intro A2 d2 w3 hO3 hF3 hA3
            have HO3 := Lib.hid hO3
            have HN3 : Hid (New w w3) := Lib.hid ((New.al (New.dn HN.out _) _).fr hF3 (fun k hk => by have := (own_lt HO.out k hk).1; have := HZ.out.1; omega))
            have HB3 : Hid (Blk w3 b3 49 #[.slice kA kn kc, .slice vA vn vc, .bool dd]) := Lib.hid (((New.al (New.dn (New.refl wr) _) _).blk HBB.out).fr hF3 (fun hk => by have := (own_lt HO.out b3 hk).1; omega))
            clear hO3 hF3 hA3
            go_wp2_with fail
            go_roundw
            case rel =>
              have hf : rfold geS ⟨⟨kA, kn, kc, ks⟩, ⟨vA, vn, vc, vs⟩, dd⟩ (L.take (j + 1)) = (R ++ [⟨⟨xA, xn, xc, xs⟩, ⟨zA, zn, zc, zs⟩, xd⟩], false) := by
                rw [HST.out, if_neg (of_decide_eq_false HT.out.symm)]
                rfl
              refine ⟨j + 1, m + 1, A2, d2, by omega, by go_num, rfl, by rw [hf], by omega, ?_, HN3, HB3⟩
              rw [hf]
              refine Lib.hid ?_
              have := HO3.out
              rw [List.flatMap_append]
              simpa [Ch.cells] using this
            case measure => simp [intOf]; omega
          · go_wp2_with fail
            go_roundw
            case rel =>
              have hf : rfold geS ⟨⟨kA, kn, kc, ks⟩, ⟨vA, vn, vc, vs⟩, dd⟩ (L.take (j + 1)) = (R, false) := by
                rw [HST.out, if_pos (of_decide_eq_true HT.out.symm)]
                rfl
              refine ⟨j + 1, m, A', c', by omega, by go_num, rfl, by rw [hf], by omega, ?_, ?_, ?_⟩
              · rw [hf]
                exact Lib.hid (New.own (New.dn (New.refl wr) _) HO.out)
              · exact Lib.hid (New.dn HN.out _)
              · exact Lib.hid ((New.dn (New.refl wr) _).blk HBB.out)
            case measure => simp [intOf]; omega
        · go_wp2_with (first
            | ((with_reducible refine atOpS ⟨some 33, .buildSlice _ _ _, _, _, _, _⟩ ?_); refine wpList_bs1 elT (by decide) rfl (.tmp 32) rfl #[.slice kA kn kc, .slice vA vn vc, .bool dd] rfl rfl ?_)
            | (at_builtin; refine atOpS ⟨some 34, _, _, _, _, _⟩ ?_; refine stopHere ?_))
          refine ⟨?_⟩
          refine wpList_app (o := ⟨some 34, _, _, _, _, _⟩) elT _ rfl (.tmp 31) (.tmp 33) rfl (b3 + 1) (.slice A' m c') m (R.flatMap Ch.cells) rfl (New.own (New.al (New.dn (New.refl wr) _) _) HO.out) _ 1 1 [.slice kA kn kc, .slice vA vn vc, .bool dd] rfl (Rd.ofBlk (p := fun _ => True) (Blk.new _ 49 #[.slice kA kn kc, .slice vA vn vc, .bool dd]) 3 1 rfl trivial) (cells_one ⟨⟨kA, kn, kc, ks⟩, ⟨vA, vn, vc, vs⟩, dd⟩) (by unfold maxLen; omega) (by omega) (by have := HBB.out.lt; simp; omega) ?_
          intro A2 d2 w3 hO3 hF3 hA3
          have HO3 : Hid (w3.ownsRow (b3 + 1) 49 3 (.slice A2 (m + 1) d2) (m + 1) ((R ++ [(⟨⟨kA, kn, kc, ks⟩, ⟨vA, vn, vc, vs⟩, dd⟩ : Ch)]).flatMap Ch.cells)) := Lib.hid (by rw [List.flatMap_append]; simpa [Ch.cells] using hO3)
          have HN3 : Hid (New w w3) := Lib.hid ((New.al (New.dn HN.out _) _).fr hF3 (fun k hk => by have := (own_lt HO.out k hk).1; have := HZ.out.1; omega))
          have HB3 : Hid (Blk w3 b3 49 #[.slice kA kn kc, .slice vA vn vc, .bool dd]) := Lib.hid (((New.al (New.dn (New.refl wr) _) _).blk HBB.out).fr hF3 (fun hk => by have := (own_lt HO.out b3 hk).1; omega))
          clear hO3 hF3 hA3 e0 e1 e2 c0 c1 c2 hk1 hk2
          have e0 : w3.cell? ⟨b3, 0, none⟩ = some (.slice kA kn kc) := HB3.out.cell 0
          have c0 := New.cell_ HN3.out HV0.out
          have c1 := New.cell_ HN3.out HV1.out
          have c2 := New.cell_ HN3.out HV2.out
          have hk1 := fun q => run_conv (c := xc) (w := w3.drewN q) (HN3.out.rd HIN.out)
          have hk2 := fun q => run_conv (c := kc) (w := w3.drewN q) (HN3.out.rd HY.out.k.rd)
          dsimp only at hk1 hk2
          simp only [← HS1.out] at hk1
          simp only [← HS2.out] at hk2
          go_wp2_with fail
          go_quiet (fail)
          cases t
          · go_wp2_with (first
              | ((with_reducible refine atOpS ⟨some 50, .buildSlice _ _ _, _, _, _, _⟩ ?_); refine wpList_bs1 elT (by decide) rfl (.tmp 49) rfl #[.slice xA xn xc, .slice zA zn zc, .bool xd] rfl rfl ?_)
              | (at_builtin; refine atOpS ⟨some 51, _, _, _, _, _⟩ ?_; refine stopHere ?_))
            refine ⟨?_⟩
            refine wpList_app (o := ⟨some 51, _, _, _, _, _⟩) elT _ rfl (.tmp 45) (.tmp 50) rfl (b3 + 1) (.slice A2 (m + 1) d2) (m + 1) ((R ++ [(⟨⟨kA, kn, kc, ks⟩, ⟨vA, vn, vc, vs⟩, dd⟩ : Ch)]).flatMap Ch.cells) rfl (New.own (New.al (New.dn (New.refl w3) _) _) HO3.out) _ 1 1 [.slice xA xn xc, .slice zA zn zc, .bool xd] rfl (Rd.ofBlk (p := fun _ => True) (Blk.new _ 49 #[.slice xA xn xc, .slice zA zn zc, .bool xd]) 3 1 rfl trivial) (cells_one ⟨⟨xA, xn, xc, xs⟩, ⟨zA, zn, zc, zs⟩, xd⟩) (by unfold maxLen; omega) (by omega) (by have := HB3.out.lt; simp; omega) ?_
            intro A4 d4 w5 hO5 hF5 hA5
            have HO5 := Lib.hid hO5
            have HN5 : Hid (New w w5) := Lib.hid ((New.al (New.dn HN3.out _) _).fr hF5 (fun k hk => by have := (own_lt HO3.out k hk).1; have := HZ.out.1; omega))
            have HB5 : Hid (Blk w5 b3 49 #[.slice kA kn kc, .slice vA vn vc, .bool dd]) := Lib.hid (((New.al (New.dn (New.refl w3) _) _).blk HB3.out).fr hF5 (fun hk => by have := (own_lt HO3.out b3 hk).1; omega))
            clear hO5 hF5 hA5
            go_wp2_with fail
            go_roundw
            case rel =>
              have hf : rfold geS ⟨⟨kA, kn, kc, ks⟩, ⟨vA, vn, vc, vs⟩, dd⟩ (L.take (j + 1)) = (R ++ [(⟨⟨kA, kn, kc, ks⟩, ⟨vA, vn, vc, vs⟩, dd⟩ : Ch)] ++ [⟨⟨xA, xn, xc, xs⟩, ⟨zA, zn, zc, zs⟩, xd⟩], true) := by
                rw [HST.out, if_neg (of_decide_eq_false HT.out.symm)]
                rfl
              refine ⟨j + 1, m + 1 + 1, A4, d4, by omega, by go_num, rfl, by rw [hf], by omega, ?_, HN5, HB5⟩
              rw [hf]
              refine Lib.hid ?_
              have := HO5.out
              rw [List.flatMap_append]
              simpa [Ch.cells] using this
            case measure => simp [intOf]; omega
          · go_wp2_with fail
            go_roundw
            case rel =>
              have hf : rfold geS ⟨⟨kA, kn, kc, ks⟩, ⟨vA, vn, vc, vs⟩, dd⟩ (L.take (j + 1)) = (R ++ [(⟨⟨kA, kn, kc, ks⟩, ⟨vA, vn, vc, vs⟩, dd⟩ : Ch)], true) := by
                rw [HST.out, if_pos (of_decide_eq_true HT.out.symm)]
                rfl
              refine ⟨j + 1, m + 1, A2, d2, by omega, by go_num, rfl, by rw [hf], by omega, ?_, ?_, ?_⟩
              · rw [hf]
                exact Lib.hid (New.own (New.dn (New.refl w3) _) HO3.out)
              · exact Lib.hid (New.dn HN3.out _)
              · exact Lib.hid ((New.dn (New.refl w3) _).blk HB3.out)
            case measure => simp [intOf]; omega
      · go_quiet (fail)
        go_wp2_with fail
        go_quiet (fail)
        cases t
        · go_wp2_with (first
            | ((with_reducible refine atOpS ⟨some 50, .buildSlice _ _ _, _, _, _, _⟩ ?_); refine wpList_bs1 elT (by decide) rfl (.tmp 49) rfl #[.slice xA xn xc, .slice zA zn zc, .bool xd] rfl rfl ?_)
            | (at_builtin; refine atOpS ⟨some 51, _, _, _, _, _⟩ ?_; refine stopHere ?_))
          refine ⟨?_⟩
          refine wpList_app (o := ⟨some 51, _, _, _, _, _⟩) elT _ rfl (.tmp 45) (.tmp 50) rfl (b3 + 1) (.slice A' m c') m (R.flatMap Ch.cells) rfl (New.own (New.al (New.dn (New.refl wr) _) _) HO.out) _ 1 1 [.slice xA xn xc, .slice zA zn zc, .bool xd] rfl (Rd.ofBlk (p := fun _ => True) (Blk.new _ 49 #[.slice xA xn xc, .slice zA zn zc, .bool xd]) 3 1 rfl trivial) (cells_one ⟨⟨xA, xn, xc, xs⟩, ⟨zA, zn, zc, zs⟩, xd⟩) (by unfold maxLen; omega) (by omega) (by have := HBB.out.lt; simp; omega) ?_
          intro A2 d2 w3 hO3 hF3 hA3
          have HO3 := Lib.hid hO3
          have HN3 : Hid (New w w3) := Lib.hid ((New.al (New.dn HN.out _) _).fr hF3 (fun k hk => by have := (own_lt HO.out k hk).1; have := HZ.out.1; omega))
          have HB3 : Hid (Blk w3 b3 49 #[.slice kA kn kc, .slice vA vn vc, .bool dd]) := Lib.hid (((New.al (New.dn (New.refl wr) _) _).blk HBB.out).fr hF3 (fun hk => by have := (own_lt HO.out b3 hk).1; omega))
          clear hO3 hF3 hA3
          go_wp2_with fail
          go_roundw
          case rel =>
            have hf : rfold geS ⟨⟨kA, kn, kc, ks⟩, ⟨vA, vn, vc, vs⟩, dd⟩ (L.take (j + 1)) = (R ++ [⟨⟨xA, xn, xc, xs⟩, ⟨zA, zn, zc, zs⟩, xd⟩], true) := by
              rw [HST.out, if_neg (of_decide_eq_false HT.out.symm)]
              rfl
            refine ⟨j + 1, m + 1, A2, d2, by omega, by go_num, rfl, by rw [hf], by omega, ?_, HN3, HB3⟩
            rw [hf]
            refine Lib.hid ?_
            have := HO3.out
            rw [List.flatMap_append]
            simpa [Ch.cells] using this
          case measure => simp [intOf]; omega
        · go_wp2_with fail
          go_roundw
          case rel =>
            have hf : rfold geS ⟨⟨kA, kn, kc, ks⟩, ⟨vA, vn, vc, vs⟩, dd⟩ (L.take (j + 1)) = (R, true) := by
              rw [HST.out, if_pos (of_decide_eq_true HT.out.symm)]
              rfl
            refine ⟨j + 1, m, A', c', by omega, by go_num, rfl, by rw [hf], by omega, ?_, ?_, ?_⟩
            · rw [hf]
              exact Lib.hid (New.own (New.dn (New.refl wr) _) HO.out)
            · exact Lib.hid (New.dn HN.out _)
            · exact Lib.hid ((New.dn (New.refl wr) _).blk HBB.out)
          case measure => simp [intOf]; omega
    · as_aux_lemma =>
      obtain rfl : j = n := by omega
      have ht : L.take j = L := by rw [← HL.out, List.take_length]
      rw [ht] at hfj
      have HFJ := Lib.hid hfj
      clear hfj
      cases db
      · go_wp2_with (first
          | ((with_reducible refine atOpS ⟨some 56, .buildSlice _ _ _, _, _, _, _⟩ ?_); refine wpList_bs1 elT (by decide) rfl (.tmp 55) rfl #[.slice kA kn kc, .slice vA vn vc, .bool dd] rfl rfl ?_)
          | (at_builtin; refine atOpS ⟨some 57, _, _, _, _, _⟩ ?_; refine stopHere ?_))
        refine ⟨?_⟩
        refine wpList_app (o := ⟨some 57, _, _, _, _, _⟩) elT _ rfl (.tmp 54) (.tmp 56) rfl (b3 + 1) (.slice A' m c') m (R.flatMap Ch.cells) rfl (New.own (New.al (New.refl wr) _) HO.out) _ 1 1 [.slice kA kn kc, .slice vA vn vc, .bool dd] rfl (Rd.ofBlk (p := fun _ => True) (Blk.new _ 49 #[.slice kA kn kc, .slice vA vn vc, .bool dd]) 3 1 rfl trivial) (cells_one ⟨⟨kA, kn, kc, ks⟩, ⟨vA, vn, vc, vs⟩, dd⟩) (by unfold maxLen; omega) (by omega) (by have := HBB.out.lt; simp; omega) ?_
        intro A2 d2 w3 hO3 hF3 hA3
        have HO3 : Hid (w3.ownsRow (b3 + 1) 49 3 (.slice A2 (m + 1) d2) (m + 1) ((R ++ [(⟨⟨kA, kn, kc, ks⟩, ⟨vA, vn, vc, vs⟩, dd⟩ : Ch)]).flatMap Ch.cells)) := Lib.hid (by rw [List.flatMap_append]; simpa [Ch.cells] using hO3)
        have HN3 : Hid (New w w3) := Lib.hid ((New.al HN.out _).fr hF3 (fun k hk => by have := (own_lt HO.out k hk).1; have := HZ.out.1; omega))
        clear hO3 hF3 hA3
        go_wp2_with fail
        go_ret
        refine ⟨⟨A2, m + 1, d2, rfl, by omega, ?_⟩, HN3.out⟩
        rw [← HZ.out.1]
        unfold rapp
        rw [HFJ.out]
        exact HO3.out
      · go_wp2_with fail
        go_ret
        refine ⟨⟨A', m, c', rfl, by omega, ?_⟩, HN.out⟩
        rw [← HZ.out.1]
        unfold rapp
        rw [HFJ.out]
        exact HO.out
end Go.Proofs.Ytfhinmjpokollaa
/- The reference's Do. No condition but that all can be read. -/
namespace Go.Proofs.Ytfhinmjpokollaa
set_option linter.unusedVariables false
set_option linter.unusedSimpArgs false
set_option linter.constructorNameAsVariable false
open Go.RowKit Go.Maps Go.Sort

theorem rfold_len (ge : List Int → List Int → Bool) (c : Ch) (L : List Ch) : (rfold ge c L).1.length ≤ L.length + 1 ∧ ((rfold ge c L).2 = false → (rfold ge c L).1.length ≤ L.length) := by
  suffices h : ∀ j, j ≤ L.length → (rfold ge c (L.take j)).1.length ≤ j + 1 ∧ ((rfold ge c (L.take j)).2 = false → (rfold ge c (L.take j)).1.length ≤ j) by
    have := h L.length (Nat.le_refl _)
    rwa [List.take_length] at this
  intro j
  induction j with
  | zero => intro _; simp [rfold]
  | succ j ih =>
    intro hj
    obtain ⟨h1, h2⟩ := ih (by omega)
    rw [rfold_take (by omega)]
    generalize rfold ge c (L.take j) = f at h1 h2
    obtain ⟨R, db⟩ := f
    generalize L[j] = x
    unfold rstep
    dsimp only at h1 h2 ⊢
    cases db
    · have h2 := h2 rfl
      cases ge x.k.xs c.k.xs
      · by_cases he : x.k.xs = c.k.xs
        · simp [he]; omega
        · simp [he]; omega
      · by_cases he : x.k.xs = c.k.xs
        · simp [he]; omega
        · simp [he]; omega
    · by_cases he : x.k.xs = c.k.xs
      · simp [he]; omega
      · simp [he]; omega
theorem rapp_len (ge : List Int → List Int → Bool) (c : Ch) (L : List Ch) : (rapp ge c L).length ≤ L.length + 1 := by
  obtain ⟨h1, h2⟩ := rfold_len ge c L
  unfold rapp
  cases hd : (rfold ge c L).2
  · have := h2 hd
    simp; omega
  · simpa using h1
theorem rfold_mem (ge : List Int → List Int → Bool) (c : Ch) (L : List Ch) : ∀ x ∈ (rfold ge c L).1, x ∈ L ∨ x = c := by
  suffices h : ∀ j, j ≤ L.length → ∀ x ∈ (rfold ge c (L.take j)).1, x ∈ L ∨ x = c by
    have := h L.length (Nat.le_refl _)
    rwa [List.take_length] at this
  intro j
  induction j with
  | zero => intro _ x hx; simp [rfold] at hx
  | succ j ih =>
    intro hj x hx
    have ih := ih (by omega)
    rw [rfold_take (by omega)] at hx
    have hm : L[j] ∈ L := List.getElem_mem _
    generalize rfold ge c (L.take j) = f at ih hx
    generalize L[j] = y at hm hx
    unfold rstep at hx
    dsimp only at hx
    have h1 : x ∈ (if !f.2 && ge y.k.xs c.k.xs then (f.1 ++ [c], true) else f).1 → x ∈ L ∨ x = c := by
      intro h
      split at h
      · rcases List.mem_append.1 h with h | h
        · exact ih x h
        · exact .inr (List.mem_singleton.1 h)
      · exact ih x h
    split at hx
    · exact h1 hx
    · rcases List.mem_append.1 hx with h | h
      · exact h1 h
      · exact .inl ((List.mem_singleton.1 h) ▸ hm)
theorem rapp_mem (ge : List Int → List Int → Bool) (c : Ch) (L : List Ch) : ∀ x ∈ rapp ge c L, x ∈ L ∨ x = c := by
  intro x hx
  unfold rapp at hx
  split at hx
  · exact rfold_mem ge c L x hx
  · rcases List.mem_append.1 hx with h | h
    · exact rfold_mem ge c L x h
    · exact .inr (List.mem_singleton.1 h)
def rdo (L C : List Ch) : List Ch := C.foldl (fun T c => rapp geS c T) L
theorem rdo_take {L C : List Ch} {k : Nat} (h : k < C.length) : rdo L (C.take (k + 1)) = rapp geS C[k] (rdo L (C.take k)) := by
  unfold rdo
  rw [List.take_succ_eq_append_getElem h, List.foldl_append]
  rfl
theorem szs {P : Nat → Prop} {w : World} {x : Fm} (h : x.In P w) : x.In (fun b => b < w.heap.size) w := ⟨rd_szs h.rd, h.byt⟩
theorem Ch.In.szs {P : Nat → Prop} {w : World} {c : Ch} (h : c.In P w) : c.In (fun b => b < w.heap.size) w := ⟨Go.Proofs.Ytfhinmjpokollaa.szs h.k, Go.Proofs.Ytfhinmjpokollaa.szs h.v⟩
/-- A slice of changes, of a table of the reference. -/
structure RTb (w : World) (A : Option Addr) (n : Nat) (L : List Ch) : Prop where
  rd : Rd (fun b => b < w.heap.size) w 3 A n (L.flatMap Ch.cells)
  len : L.length = n
  el : ∀ c ∈ L, c.In (fun b => b < w.heap.size) w
theorem cells_len (L : List Ch) : (L.flatMap Ch.cells).length = L.length * 3 := by
  induction L with
  | nil => rfl
  | cons c L ih => rw [List.flatMap_cons, List.length_append, ih]; simp [Ch.cells]; omega
theorem RTb.new {w w' : World} {A : Option Addr} {n : Nat} {L : List Ch} (h : RTb w A n L) (hN : New w w') : RTb w' A n L :=
  ⟨rd_szs (hN.rd h.rd), h.len, fun c hc => Ch.In.szs ((h.el c hc).new hN)⟩
theorem RTb.nil (w : World) : RTb w none 0 [] := ⟨Rd.nil, rfl, fun c h => by cases h⟩
theorem rapply_tb (A : Option Addr) (n c : Nat) (L : List Ch) (y : Ch) (w : World) (h : RTb w A n L) (hn : n ≤ 100000000) {q : Nat → Prop} (hy : y.In q w) :
    Calls Try.prog 23 #[.slice A n c, .agg y.cells.toArray] w fun e w' => (∃ A' n' c', e = .returned (.slice A' n' c') ∧ RTb w' A' n' (rapp geS y L)) ∧ New w w' := by
  refine (rapply_any A n c L y w h.rd h.len hn h.el hy).mono ?_
  rintro e w' ⟨⟨A', n', c', rfl, -, hO⟩, hN⟩
  refine ⟨⟨A', n', c', rfl, rd_szs (Rd.own hO rfl), ?_, fun x hx => ?_⟩, hN⟩
  · have := hO.1
    rw [cells_len] at this
    omega
  · rcases rapp_mem geS y L x hx with hx | rfl
    · exact Ch.In.szs ((h.el x hx).new hN)
    · exact Ch.In.szs (hy.new hN)
theorem rdo_len (L C : List Ch) : (rdo L C).length ≤ L.length + C.length := by
  unfold rdo
  induction C generalizing L with
  | nil => simp
  | cons c C ih =>
    rw [List.foldl_cons]
    have := ih (rapp geS c L)
    have := rapp_len geS c L
    rw [List.length_cons]
    omega
set_option maxRecDepth 100000 in
set_option maxHeartbeats 2000000 in
theorem rdo_any (A : Option Addr) (n c : Nat) (L : List Ch) (B : Option Addr) (m d : Nat) (C : List Ch) (w : World) (h : RTb w A n L) (hC : RTb w B m C) (hn : n + m ≤ 1000000) :
    Calls Try.prog 18 #[.slice A n c, .slice B m d] w fun e w' => (∃ A' n' c', e = .returned (.slice A' n' c') ∧ RTb w' A' n' (rdo L C)) ∧ New w w' := by
  have H := Lib.hid h
  have HC := Lib.hid hC
  clear h hC
  go_enter Try.func18, Try.ntmps18
  go_wp2_with fail
  go_loopw [0, 5] (fun s i wr => ∃ (j n' : Nat) (A' : Option Addr) (c' : Nat), j ≤ m ∧ i = .int .i64 j ∧ s = .slice A' n' c' ∧ Hid (RTb wr A' n' (rdo L (C.take j))) ∧ Hid (New w wr)) (fun s i _ => m - (intOf i).toNat)
  case atStart => exact ⟨0, n, A, c, Nat.zero_le _, rfl, rfl, H, Lib.hid (New.refl w)⟩
  case round =>
    obtain ⟨j, n', A', c', hj, rfl, rfl, HT, HN⟩ := hrel
    by_cases hlt : j < m
    · as_aux_lemma =>
      obtain ⟨g, o, hl, rfl, -, -, hrg⟩ := rd_row (f := Ch.cells) (L := C) (fun _ => rfl) (by omega) (HN.out.rd HC.out.rd) hlt
      have c0 : wr.cell? ⟨g, o + j * 3, none⟩ = some (.slice C[j].k.A C[j].k.n C[j].k.c) := hrg 0 _ rfl
      have c1 : wr.cell? ⟨g, o + j * 3 + 1, none⟩ = some (.slice C[j].v.A C[j].v.n C[j].v.c) := hrg 1 _ rfl
      have c2 : wr.cell? ⟨g, o + j * 3 + 2, none⟩ = some (.bool C[j].d) := hrg 2 _ rfl
      have hin := (HC.out.el C[j] (List.getElem_mem _)).new HN.out
      have hst := rdo_take (L := L) hl
      have hnl : n' ≤ 1000000 := by
        have h1 := HT.out.len
        have h2 := rdo_len L (C.take j)
        have h3 := H.out.len
        have h4 := HC.out.len
        rw [List.length_take] at h2
        omega
      generalize C[j] = x at c0 c1 c2 hin hst
      have HIN := Lib.hid hin
      have HST := Lib.hid hst
      have hcv : (.agg x.cells.toArray : Value) = .agg #[.slice x.k.A x.k.n x.k.c, .slice x.v.A x.v.n x.v.c, .bool x.d] := rfl
      have HCV := Lib.hid hcv
      have hj0 : (0 : Int) ≤ (j : Int) := by omega
      have hjn : (j : Int) < (m : Int) := by omega
      clear hrg hl hst hin hcv
      go_wp2_with fail
      rw [← HCV.out]
      refine (rapply_tb A' n' c' _ x wr HT.out (by omega) HIN.out).mono ?_
      rintro e w3 ⟨⟨A3, n3, c3, rfl, hT3⟩, hN3⟩
      rw [← HST.out] at hT3
      have HT3 := Lib.hid hT3
      have HN3 := Lib.hid (HN.out.tr hN3)
      clear hT3 hN3
      go_wp2_with fail
      go_roundw
      case rel => exact ⟨j + 1, n3, A3, c3, by omega, by go_num, rfl, HT3, HN3⟩
      case measure => simp [intOf]; omega
    · as_aux_lemma =>
      obtain rfl : j = m := by omega
      go_wp2_with fail
      go_ret
      have ht : C.take j = C := by rw [← HC.out.len, List.take_length]
      have hT := HT.out
      rw [ht] at hT
      exact ⟨⟨A', n', c', rfl, hT⟩, HN.out⟩
end Go.Proofs.Ytfhinmjpokollaa
