/- Texts of one proof, one behind the other: ShC, ShP, ShD, Map. No condition but each one's own. -/
import Derived.Test.YteeclfejgpgooaaDoorLogPlaysM3
import Derived.Test.YteeclfejgpgooaaDoorLogPlaysM4
import Derived.Test.YteeclfejgpgooaaDoorLogPlaysM1
import Derived.Maps.OwnOps
import Derived.Maps.OwnSet
import Derived.Maps.Views
/- sha: a block's words. No condition. -/
namespace Go.Proofs.YteeclfejgpgooaaDoor
set_option linter.unusedVariables false
set_option linter.unusedSimpArgs false
set_option linter.constructorNameAsVariable false
open Go.RowKit Go.Sort

def xor32 (a b : Int) : Int := bits .xor .u32 a b
def add32 (a b : Int) : Int := IntKind.u32.wrap (a + b)
/-- A block's words, one by one. -/
def sg0 (x : Int) : Int := xor32 (xor32 (rotr x 7) (rotr x 18)) (x / 8)
def sg1 (y : Int) : Int := xor32 (xor32 (rotr y 17) (rotr y 19)) (y / 1024)
def bword (s : List Int) (t : Nat) : Int := ((at_ s (4 * t) * 256 + at_ s (4 * t + 1)) * 256 + at_ s (4 * t + 2)) * 256 + at_ s (4 * t + 3)
def sprd (s : List Int) : Nat → List Int
  | 0 => []
  | t + 1 => sprd s t ++ [if t < 16 then bword s t else add32 (add32 (add32 (at_ (sprd s t) (t - 16)) (sg0 (at_ (sprd s t) (t - 15)))) (at_ (sprd s t) (t - 7))) (sg1 (at_ (sprd s t) (t - 2)))]
theorem sprd_len (s : List Int) (t : Nat) : (sprd s t).length = t := by
  induction t with
  | zero => rfl
  | succ t ih => simp [sprd, ih]
/-- Numbers of 32 bits in a row of n, the rest 0. -/
def u32A (n : Nat) (L : List Int) : Array Value := ((L ++ List.replicate (n - L.length) 0).map fun x => Value.int .u32 x).toArray
theorem u32A_get {n : Nat} {L : List Int} {i : Nat} (h : i < L.length) : (u32A n L)[i]? = some (.int .u32 (at_ L i)) := by
  unfold u32A at_
  rw [List.getElem?_toArray, List.getElem?_map, List.getElem?_append_left h, List.getElem?_eq_getElem h]
  simp [List.getD_eq_getElem?_getD, List.getElem?_eq_getElem h]
theorem u32A_any {n : Nat} {L : List Int} {i : Nat} (h : i < n) : ∃ v, (u32A n L)[i]? = some v := by
  unfold u32A
  rw [List.getElem?_toArray, List.getElem?_map]
  have : i < (L ++ List.replicate (n - L.length) (0 : Int)).length := by simp; omega
  rw [List.getElem?_eq_getElem this]
  exact ⟨_, rfl⟩
theorem u32A_set {n : Nat} {L : List Int} (v : Int) (h : L.length < n) : (u32A n L).setIfInBounds L.length (.int .u32 v) = u32A n (L ++ [v]) := by
  unfold u32A
  rw [List.setIfInBounds_toArray]
  congr 1
  obtain ⟨m, hm⟩ : ∃ m, n - L.length = m + 1 := ⟨n - L.length - 1, by omega⟩
  have h2 : n - (L ++ [v]).length = m := by simp; omega
  rw [hm, h2, List.map_append, List.set_append_right _ _ (by simp)]
  simp [List.replicate_succ]
theorem u32A_size {n : Nat} {L : List Int} (h : L.length ≤ n) : (u32A n L).size = n := by
  simp [u32A]
  omega
theorem u32A_one (n : Nat) (L : List Int) : (u32A n L).all (·.oneCell') = true := by
  rw [Array.all_eq_true_iff_forall_mem]
  intro x hx
  unfold u32A at hx
  rw [List.mem_toArray] at hx
  obtain ⟨y, -, rfl⟩ := List.mem_map.1 hx
  rfl
theorem add32_b (a b : Int) : 0 ≤ add32 a b ∧ add32 a b < 4294967296 := by
  unfold add32
  rw [IntKind.wrap_u32]
  omega
theorem sprd_b {s : List Int} (hs : s.length = 64) (hb : Byt s) (t : Nat) : ∀ i, 0 ≤ at_ (sprd s t) i ∧ at_ (sprd s t) i < 4294967296 := by
  have key : ∀ i, 0 ≤ at_ s i ∧ at_ s i < 256 := fun i => by
    unfold at_
    rw [List.getD_eq_getElem?_getD]
    cases h : s[i]? with
    | none => simp
    | some x => exact hb x (List.mem_of_getElem? h)
  induction t with
  | zero => intro i; simp [sprd, at_]
  | succ t ih =>
    intro i
    have e : at_ (sprd s (t + 1)) i = if i < t then at_ (sprd s t) i else if i = t then (if t < 16 then bword s t else add32 (add32 (add32 (at_ (sprd s t) (t - 16)) (sg0 (at_ (sprd s t) (t - 15)))) (at_ (sprd s t) (t - 7))) (sg1 (at_ (sprd s t) (t - 2)))) else 0 := by
      have hl := sprd_len s t
      show at_ (sprd s t ++ [_]) i = _
      unfold at_
      rw [List.getD_eq_getElem?_getD]
      by_cases h : i < t
      · rw [if_pos h, List.getElem?_append_left (by omega), List.getD_eq_getElem?_getD]
      · rw [if_neg h, List.getElem?_append_right (by omega), hl]
        by_cases h2 : i = t
        · subst h2
          simp
        · rw [if_neg h2, List.getElem?_eq_none (by simp; omega)]
          rfl
    rw [e]
    split
    · exact ih i
    · split
      · split
        · unfold bword
          have h0 := key (4 * t)
          have h1 := key (4 * t + 1)
          have h2 := key (4 * t + 2)
          have h3 := key (4 * t + 3)
          omega
        · exact add32_b _ _
      · omega
theorem results_rowA {fn : Func} {p : Tmp} {ty : TypeId} {P : Program} (h : fn.results = #[.cell p ty]) (tmps : Array Value) (w : World) (g : Nat) (cs : Array Value) (d : TypeDesc)
    (hp : tmps.getD p undef = .pointer (some ⟨g, 0, none⟩)) (hg : Blk w g ty cs) (hu : P.underlying ty = some d) (hd : d.isRow = true) (hi : (P.info? ty).map (·.size) = some cs.size) :
    (results fn tmps).run P w = .ok (.agg cs) w := results_cell_row h tmps w g ty cs (0, 0) d hp hg hu (by cases d <;> first | rfl | (simp [TypeDesc.isRow] at hd)) hi
theorem slice4 (b1 t : Nat) (h : t < 16) (w : World) : (Instr.sliceAt 34 (.pointer (some ⟨b1, 0, none⟩)) (some (.int .i64 (4 * (t : Int)))) (some (.int .i64 (4 * (t : Int) + 4))) none).run Tryd.prog w = .ok (.slice (some ⟨b1, 4 * t, none⟩) 4 (64 - 4 * t)) w := by
  have hal : (Tryd.prog.arrayLen 34) = 64 := by kernel_rfl
  have hel : (Tryd.prog.elem 34) = 5 := by kernel_rfl
  have hu : Tryd.prog.underlying 34 = some (.array (Tryd.prog.arrayLen 34) (Tryd.prog.elem 34)) := by rw [hal, hel]; exact Tryd.underlying34
  have hs : (sizeOf 5).run Tryd.prog w = .ok 1 w := by
    first | exact Tryd.sizeOf5 w | simp [Tryd.sizeOf5, go_sem] | kernel_rfl
  rw [run_sliceAt_array_lh (P := Tryd.prog) w 34 ⟨b1, 0, none⟩ hu .i64 .i64 (4 * (t : Int)) (4 * (t : Int) + 4) (by omega) (by omega) (by rw [hal]; omega), hel, hal, hs]
  have e1 : (4 * (t : Int)).toNat = 4 * t := by omega
  have e2 : (4 * (t : Int) + 4).toNat = 4 * t + 4 := by omega
  simp only [Result.andThen_ok, slicedAt, e1, e2]
  rw [if_neg (by omega), add_own, Nat.mul_one]
  simp
set_option maxHeartbeats 4000000 in
set_option maxRecDepth 100000 in
theorem spread_any (s : List Int) (w : World) (hs : s.length = 64) (hb : Byt s) : Calls Tryd.prog 80 #[.agg (secA s)] w fun e w' => e = .returned (.agg (u32A 64 (sprd s 64))) ∧ New w w' := by
  have HS := Lib.hid hs
  have HB := Lib.hid hb
  clear hs hb
  go_enter Tryd.func80, Tryd.ntmps80
  go_upto_region 2 with fail
  obtain ⟨w1, hw1⟩ : ∃ w1 : World, w1 = ((w.alloc (.cells (secA s) 34)).alloc (.cells #[.int .u32 0, .int .u32 0, .int .u32 0, .int .u32 0, .int .u32 0, .int .u32 0, .int .u32 0, .int .u32 0, .int .u32 0, .int .u32 0, .int .u32 0, .int .u32 0, .int .u32 0, .int .u32 0, .int .u32 0, .int .u32 0, .int .u32 0, .int .u32 0, .int .u32 0, .int .u32 0, .int .u32 0, .int .u32 0, .int .u32 0, .int .u32 0, .int .u32 0, .int .u32 0, .int .u32 0, .int .u32 0, .int .u32 0, .int .u32 0, .int .u32 0, .int .u32 0, .int .u32 0, .int .u32 0, .int .u32 0, .int .u32 0, .int .u32 0, .int .u32 0, .int .u32 0, .int .u32 0, .int .u32 0, .int .u32 0, .int .u32 0, .int .u32 0, .int .u32 0, .int .u32 0, .int .u32 0, .int .u32 0, .int .u32 0, .int .u32 0, .int .u32 0, .int .u32 0, .int .u32 0, .int .u32 0, .int .u32 0, .int .u32 0, .int .u32 0, .int .u32 0, .int .u32 0, .int .u32 0, .int .u32 0, .int .u32 0, .int .u32 0, .int .u32 0] 139)).alloc (.cells #[.int .u32 0, .int .u32 0, .int .u32 0, .int .u32 0, .int .u32 0, .int .u32 0, .int .u32 0, .int .u32 0, .int .u32 0, .int .u32 0, .int .u32 0, .int .u32 0, .int .u32 0, .int .u32 0, .int .u32 0, .int .u32 0, .int .u32 0, .int .u32 0, .int .u32 0, .int .u32 0, .int .u32 0, .int .u32 0, .int .u32 0, .int .u32 0, .int .u32 0, .int .u32 0, .int .u32 0, .int .u32 0, .int .u32 0, .int .u32 0, .int .u32 0, .int .u32 0, .int .u32 0, .int .u32 0, .int .u32 0, .int .u32 0, .int .u32 0, .int .u32 0, .int .u32 0, .int .u32 0, .int .u32 0, .int .u32 0, .int .u32 0, .int .u32 0, .int .u32 0, .int .u32 0, .int .u32 0, .int .u32 0, .int .u32 0, .int .u32 0, .int .u32 0, .int .u32 0, .int .u32 0, .int .u32 0, .int .u32 0, .int .u32 0, .int .u32 0, .int .u32 0, .int .u32 0, .int .u32 0, .int .u32 0, .int .u32 0, .int .u32 0, .int .u32 0] 139) := ⟨_, rfl⟩
  obtain ⟨b1, hb1⟩ : ∃ b1, b1 = w.heap.size := ⟨_, rfl⟩
  obtain ⟨b2, hb2⟩ : ∃ b2, b2 = w.heap.size + 1 := ⟨_, rfl⟩
  obtain ⟨b3, hb3⟩ : ∃ b3, b3 = w.heap.size + 1 + 1 := ⟨_, rfl⟩
  have hz : (#[.int .u32 0, .int .u32 0, .int .u32 0, .int .u32 0, .int .u32 0, .int .u32 0, .int .u32 0, .int .u32 0, .int .u32 0, .int .u32 0, .int .u32 0, .int .u32 0, .int .u32 0, .int .u32 0, .int .u32 0, .int .u32 0, .int .u32 0, .int .u32 0, .int .u32 0, .int .u32 0, .int .u32 0, .int .u32 0, .int .u32 0, .int .u32 0, .int .u32 0, .int .u32 0, .int .u32 0, .int .u32 0, .int .u32 0, .int .u32 0, .int .u32 0, .int .u32 0, .int .u32 0, .int .u32 0, .int .u32 0, .int .u32 0, .int .u32 0, .int .u32 0, .int .u32 0, .int .u32 0, .int .u32 0, .int .u32 0, .int .u32 0, .int .u32 0, .int .u32 0, .int .u32 0, .int .u32 0, .int .u32 0, .int .u32 0, .int .u32 0, .int .u32 0, .int .u32 0, .int .u32 0, .int .u32 0, .int .u32 0, .int .u32 0, .int .u32 0, .int .u32 0, .int .u32 0, .int .u32 0, .int .u32 0, .int .u32 0, .int .u32 0, .int .u32 0] : Array Value) = u32A 64 [] := by rfl
  have HN1 : Hid (New w w1) := Lib.hid (by rw [hw1]; exact New.al (New.al (New.al (New.refl _) _) _) _)
  have HB1 : Hid (Blk w1 b1 34 (secA s)) := Lib.hid (by rw [hw1, hb1]; exact ((Blk.new _ _ _).alloc _).alloc _)
  have HB2 : Hid (Blk w1 b2 139 (u32A 64 [])) := Lib.hid (by rw [hw1, hb2, ← hz]; exact (Blk.new' _ _ _ (by simp)).alloc _)
  have HB3 : Hid (Blk w1 b3 139 (u32A 64 [])) := Lib.hid (by rw [hw1, hb3, ← hz]; exact Blk.new' _ _ _ (by simp))
  have HZ : Hid (b1 = w.heap.size ∧ b2 = w.heap.size + 1 ∧ b3 = w.heap.size + 2) := Lib.hid ⟨hb1, hb2, hb3⟩
  rw [← hw1, ← hb3, ← hb2, ← hb1]
  clear hw1 hb1 hb2 hb3 hz
  go_wp2_with fail
  go_loopw [7] (fun i wr => ∃ (t : Nat), t ≤ 64 ∧ i = .int .i64 t ∧ Hid (New w wr) ∧ Hid (Blk wr b1 34 (secA s)) ∧ Hid (Blk wr b2 139 (u32A 64 [])) ∧ Hid (Blk wr b3 139 (u32A 64 (sprd s t)))) (fun i _ => 64 - (intOf i).toNat)
  case atStart => exact ⟨0, Nat.zero_le _, rfl, HN1, HB1, HB2, HB3⟩
  case round =>
    clear HB1 HB2 HB3 HN1
    obtain ⟨t, ht, rfl, HN, HB1, HB2, HB3⟩ := hrel
    by_cases hlt : t < 64
    · have ht0 : (0 : Int) ≤ (t : Int) := by omega
      have ht6 : (t : Int) < 64 := by omega
      by_cases h16 : t < 16
      · have hd : decide ((t : Int) < 16) = true := decide_eq_true (by omega)
        have hsl := slice4 b1 t h16
        have hg : ∀ i, i < 64 → wr.cell? ⟨b1, i, none⟩ = some (.int .u8 (at_ s i)) := HB1.out.byte HS.out
        have hrd : Rd (fun _ => True) wr 1 (some ⟨b1, 4 * t, none⟩) 4 (u8s [at_ s (4 * t), at_ s (4 * t + 1), at_ s (4 * t + 2), at_ s (4 * t + 3)]) := by
          refine ⟨rfl, fun _ => ⟨_, rfl, trivial, HB1.out.lt, fun i u hu => ?_⟩⟩
          have hi : i < 4 := (List.getElem?_eq_some_iff.1 hu).1
          have ha : (⟨b1, 4 * t, none⟩ : Addr).add i = ⟨b1, 4 * t + i, none⟩ := by
            unfold Addr.add
            split
            · next h0 => subst h0; rfl
            · rfl
          rw [ha, hg _ (by omega)]
          rcases (by omega : i = 0 ∨ i = 1 ∨ i = 2 ∨ i = 3) with rfl | rfl | rfl | rfl <;> exact hu
        have hby : Byt [at_ s (4 * t), at_ s (4 * t + 1), at_ s (4 * t + 2), at_ s (4 * t + 3)] := by
          have key : ∀ i, i < 64 → 0 ≤ at_ s i ∧ at_ s i < 256 := fun i hi => by
            have hl : i < s.length := by rw [HS.out]; exact hi
            have e : at_ s i = s[i] := by simp [at_, List.getD_eq_getElem?_getD, List.getElem?_eq_getElem hl]
            rw [e]
            exact HB.out _ (List.getElem_mem _)
          intro x hx
          simp only [List.mem_cons, List.not_mem_nil, or_false] at hx
          rcases hx with rfl | rfl | rfl | rfl <;> exact key _ (by omega)
        have HW := Lib.hid (word_any (some ⟨b1, 4 * t, none⟩) 4 (64 - 4 * t) _ _ _ _ _ wr hrd rfl hby)
        clear hg hrd hby
        go_wp2_with fail
        refine HW.out.mono ?_
        rintro e w5 ⟨rfl, hN5⟩
        have HN5 := Lib.hid hN5
        obtain ⟨v, hv⟩ := u32A_any (n := 64) (L := sprd s t) hlt
        have c5 : w5.cell? ⟨b3, t, none⟩ = some v := ((hN5.blk HB3.out).cell t).trans hv
        have f5 : w5.frozen? ⟨b3, t, none⟩ = false := (hN5.blk HB3.out).frozen t
        have HF : Hid (Fr (fun k => k = b3) w5 (w5.setCell ⟨b3, t, none⟩ (.int .u32 (bword s t)))) := Lib.hid ((Fr.refl (fun k => k = b3) w5).setCell (p := ⟨b3, t, none⟩) (fun _ => rfl) _)
        have HN6 : Hid (New w (w5.setCell ⟨b3, t, none⟩ (.int .u32 (bword s t)))) := Lib.hid ((HN.out.tr HN5.out).fr HF.out (fun k hk => by have := HZ.out; omega))
        have HB6 : Hid (Blk (w5.setCell ⟨b3, t, none⟩ (.int .u32 (bword s t))) b3 139 (u32A 64 (sprd s (t + 1)))) := Lib.hid (by
          have := (HN5.out.blk HB3.out).set t (.int .u32 (bword s t))
          have h2 := u32A_set (n := 64) (L := sprd s t) (bword s t) (by rw [sprd_len]; exact hlt)
          rw [sprd_len] at h2
          rw [h2] at this
          simpa [sprd, h16] using this)
        have HB16 : Hid (Blk (w5.setCell ⟨b3, t, none⟩ (.int .u32 (bword s t))) b1 34 (secA s)) := Lib.hid ((HN5.out.blk HB1.out).fr HF.out (by have := HZ.out; omega))
        have HB26 : Hid (Blk (w5.setCell ⟨b3, t, none⟩ (.int .u32 (bword s t))) b2 139 (u32A 64 [])) := Lib.hid ((HN5.out.blk HB2.out).fr HF.out (by have := HZ.out; omega))
        clear hN5 hv hsl HW
        dsimp only
        have hbw : ((at_ s (4 * t) * 256 + at_ s (4 * t + 1)) * 256 + at_ s (4 * t + 2)) * 256 + at_ s (4 * t + 3) = bword s t := rfl
        rw [hbw]
        clear hbw
        go_wp2_with fail
        go_roundw
        case rel => exact ⟨t + 1, by omega, by go_num, HN6, HB16, HB26, HB6⟩
        case measure => simp [intOf]; omega
      · have hd : decide ((t : Int) < 16) = false := decide_eq_false (by omega)
        obtain ⟨xx, hxx⟩ : ∃ xx, xx = at_ (sprd s t) (t - 15) := ⟨_, rfl⟩
        obtain ⟨yy, hyy⟩ : ∃ yy, yy = at_ (sprd s t) (t - 2) := ⟨_, rfl⟩
        obtain ⟨i15, h15⟩ : ∃ i, i = t - 15 := ⟨_, rfl⟩
        obtain ⟨i2, h2⟩ : ∃ i, i = t - 2 := ⟨_, rfl⟩
        obtain ⟨i16, h16'⟩ : ∃ i, i = t - 16 := ⟨_, rfl⟩
        obtain ⟨i7, h7⟩ : ∃ i, i = t - 7 := ⟨_, rfl⟩
        have e15 : ((t : Int) - 15) = (i15 : Int) := by omega
        have e2 : ((t : Int) - 2) = (i2 : Int) := by omega
        have e16 : ((t : Int) - 16) = (i16 : Int) := by omega
        have e7 : ((t : Int) - 7) = (i7 : Int) := by omega
        have hlen : (sprd s t).length = t := sprd_len s t
        have HC15 : Hid ((u32A 64 (sprd s t))[i15]? = some (.int .u32 xx)) := Lib.hid (by rw [hxx, ← h15]; exact u32A_get (by omega))
        have HC2 : Hid ((u32A 64 (sprd s t))[i2]? = some (.int .u32 yy)) := Lib.hid (by rw [hyy, ← h2]; exact u32A_get (by omega))
        have HC16 : Hid ((u32A 64 (sprd s t))[i16]? = some (.int .u32 (at_ (sprd s t) i16))) := Lib.hid (u32A_get (by omega))
        have HC7 : Hid ((u32A 64 (sprd s t))[i7]? = some (.int .u32 (at_ (sprd s t) i7))) := Lib.hid (u32A_get (by omega))
        have hbx : 0 ≤ xx ∧ xx < 4294967296 := by rw [hxx]; exact sprd_b HS.out HB.out t _
        have hby : 0 ≤ yy ∧ yy < 4294967296 := by rw [hyy]; exact sprd_b HS.out HB.out t _
        have l15 : (i15 : Int) < 64 := by omega
        have l2 : (i2 : Int) < 64 := by omega
        have l16 : (i16 : Int) < 64 := by omega
        have l7 : (i7 : Int) < 64 := by omega
        have w15 : IntKind.i64.wrap (i15 : Int) = (i15 : Int) := IntWalk.i64_in _ (by omega)
        have w2 : IntKind.i64.wrap (i2 : Int) = (i2 : Int) := IntWalk.i64_in _ (by omega)
        have w16 : IntKind.i64.wrap (i16 : Int) = (i16 : Int) := IntWalk.i64_in _ (by omega)
        have w7 : IntKind.i64.wrap (i7 : Int) = (i7 : Int) := IntWalk.i64_in _ (by omega)
        have HXX := Lib.hid hxx
        have HYY := Lib.hid hyy
        have HI : Hid (i15 = t - 15 ∧ i2 = t - 2 ∧ i16 = t - 16 ∧ i7 = t - 7) := Lib.hid ⟨h15, h2, h16', h7⟩
        clear hlen hxx hyy h15 h2 h16' h7
        go_wp2_with fail
        refine wp_region_mixH (fun w' => Blk w' b3 139 (u32A 64 (sprd s t))) [(true, 0), (true, 1), (true, 2), (true, 3), (true, 4), (true, 5), (true, 6), (true, 7), (true, 8), (true, 9)] (by kernel_rfl) (by kernel_rfl) HB3.out (fun hne => ?_)
        have q15 : ∀ p : HW (fun w' => Blk w' b3 139 (u32A 64 (sprd s t))), p.w.cell? ⟨b3, i15, none⟩ = some (.int .u32 xx) := fun p => (p.h.cell i15).trans HC15.out
        have q2 : ∀ p : HW (fun w' => Blk w' b3 139 (u32A 64 (sprd s t))), p.w.cell? ⟨b3, i2, none⟩ = some (.int .u32 yy) := fun p => (p.h.cell i2).trans HC2.out
        iterate 10 (refine mix_take (o := ⟨_, _, _, _, _, _⟩) rfl (fun K hK => ?_); go_simp; refine hK _ ?_; clear hK K)
        clear q15 q2 hne
        refine mix_done ?_
        have c16 := cell_regrown (show (wr.drew).cell? ⟨b3, i16, none⟩ = some (.int .u32 (at_ (sprd s t) i16)) from (HB3.out.drew.cell i16).trans HC16.out)
        have c7 := cell_regrown (show (wr.drew).cell? ⟨b3, i7, none⟩ = some (.int .u32 (at_ (sprd s t) i7)) from (HB3.out.drew.cell i7).trans HC7.out)
        have cT : ∀ (x : Int) (k : Nat), (0 ≤ x ∧ x < 4294967296) → (1 ≤ k ∧ k ≤ 31) → ∀ d os, Calls Tryd.prog 81 #[.int .u32 x, .int .i64 (k : Int)] (grow (redrawn wr.drew d) os) fun e w'' => e = .returned (.int .u32 (rotr x k)) ∧ ∃ p : Regrown, w'' = grow (redrawn wr.drew p.d) p.os :=
          fun x k hx hk => calls_regrown (fun W _ => (turn_any x k W hx hk).mono fun e w' h => ⟨h.1, by rw [← h.2]; exact New.refl _⟩)
        have t1 := cT xx 7 hbx (by omega)
        have t2 := cT xx 18 hbx (by omega)
        have t3 := cT yy 17 hby (by omega)
        have t4 := cT yy 19 hby (by omega)
        clear cT
        go_wp2_with fail
        refine wp_region_tail 29 (by kernel_rfl) (by kernel_rfl) ?_
        simp only [List.take_succ_cons, List.take_zero, List.drop_succ_cons, List.drop_zero]
        repeat (quiet_step (first | exact t1 _ _ | exact t2 _ _ | exact t3 _ _ | exact t4 _ _))
        refine wpQuiet_nil ?_
        intro Wq hNq
        have HNq : Hid (New wr Wq) := Lib.hid (New.tr (New.dr (New.refl wr)) hNq)
        obtain ⟨v, hv⟩ := u32A_any (n := 64) (L := sprd s t) hlt
        have c5 : Wq.cell? ⟨b3, t, none⟩ = some v := ((HNq.out.blk HB3.out).cell t).trans hv
        have f5 : Wq.frozen? ⟨b3, t, none⟩ = false := (HNq.out.blk HB3.out).frozen t
        obtain ⟨val, hval⟩ : ∃ val, val = (add32 (add32 (add32 (at_ (sprd s t) i16) (sg0 xx)) (at_ (sprd s t) i7)) (sg1 yy)) := ⟨_, rfl⟩
        have hval2 : IntKind.u32.wrap (IntKind.u32.wrap (IntKind.u32.wrap (at_ (sprd s t) i16 + bits BinOp.xor .u32 (bits BinOp.xor .u32 (rotr xx 7) (rotr xx 18)) (xx / 8)) + at_ (sprd s t) i7) + bits BinOp.xor .u32 (bits BinOp.xor .u32 (rotr yy 17) (rotr yy 19)) (yy / 1024)) = val := hval.symm
        rw [hval2]
        have HF : Hid (Fr (fun k => k = b3) Wq (Wq.setCell ⟨b3, t, none⟩ (.int .u32 val))) := Lib.hid ((Fr.refl (fun k => k = b3) Wq).setCell (p := ⟨b3, t, none⟩) (fun _ => rfl) _)
        have HN6 : Hid (New w (Wq.setCell ⟨b3, t, none⟩ (.int .u32 val))) := Lib.hid ((HN.out.tr HNq.out).fr HF.out (fun k hk => by have := HZ.out; omega))
        have HB6 : Hid (Blk (Wq.setCell ⟨b3, t, none⟩ (.int .u32 val)) b3 139 (u32A 64 (sprd s (t + 1)))) := Lib.hid (by
          have := (HNq.out.blk HB3.out).set t (.int .u32 val)
          have h2 := u32A_set (n := 64) (L := sprd s t) val (by rw [sprd_len]; exact hlt)
          rw [sprd_len] at h2
          rw [h2, hval, HXX.out, HYY.out, HI.out.2.2.1, HI.out.2.2.2] at this
          rw [hval, HXX.out, HYY.out, HI.out.2.2.1, HI.out.2.2.2]
          simpa [sprd, h16] using this)
        have HB16 : Hid (Blk (Wq.setCell ⟨b3, t, none⟩ (.int .u32 val)) b1 34 (secA s)) := Lib.hid ((HNq.out.blk HB1.out).fr HF.out (by have := HZ.out; omega))
        have HB26 : Hid (Blk (Wq.setCell ⟨b3, t, none⟩ (.int .u32 val)) b2 139 (u32A 64 [])) := Lib.hid ((HNq.out.blk HB2.out).fr HF.out (by have := HZ.out; omega))
        clear hNq hv t1 t2 t3 t4 c16 c7 hval hval2 hbx hby
        go_wp2_with fail
        go_roundw
        case rel => exact ⟨t + 1, by omega, by go_num, HN6, HB16, HB26, HB6⟩
        case measure => simp [intOf]; omega
    · obtain rfl : t = 64 := by omega
      have hsz : (u32A 64 (sprd s 64)).size = 64 := u32A_size (by rw [sprd_len]; exact Nat.le_refl _)
      have hsz0 : (u32A 64 []).size = (u32A 64 (sprd s 64)).size := by rw [hsz]; exact u32A_size (by simp)
      go_wp2_with (first
        | ((with_reducible refine atOp ⟨some 59, .load _ _, _, _, _, _⟩ ?_); refine wpList_load_any rfl _ rfl Tryd.underlying139 rfl (by rw [hsz]; rfl) rfl HB3.out ?_)
        | ((with_reducible refine atOp ⟨none, .store 139 (.tmp 2) _, _, _, _, _⟩ ?_); refine wpList_store_any rfl (.tmp 2) (.tmp 59) rfl (by rw [hsz]; rfl) rfl rfl HB2.out hsz0 (u32A_one _ _) ?_; intro w8 hb8 hf8; have HB8 := Lib.hid hb8; have HF8 := Lib.hid hf8; clear hb8 hf8))
      refine bodyPost_ret (v := .agg (u32A 64 (sprd s 64))) (results_rowA rfl _ _ b2 _ _ rfl HB8.out Tryd.underlying139 rfl (by rw [hsz]; rfl)) rfl ⟨rfl, HN.out.fr HF8.out (fun k hk => by have := HZ.out; omega)⟩
end Go.Proofs.YteeclfejgpgooaaDoor
/- sha in plain words: a state, a round, a block compressed, a text's hash. No condition. -/
namespace Go.Proofs.YteeclfejgpgooaaDoor
set_option linter.unusedVariables false
set_option linter.unusedSimpArgs false
set_option linter.constructorNameAsVariable false
open Go.RowKit Go.Sort

/-- The 64 constants, the 8 initial values. -/
def kL : List Int := [1116352408, 1899447441, 3049323471, 3921009573, 961987163, 1508970993, 2453635748, 2870763221, 3624381080, 310598401, 607225278, 1426881987, 1925078388, 2162078206, 2614888103, 3248222580, 3835390401, 4022224774, 264347078, 604807628, 770255983, 1249150122, 1555081692, 1996064986, 2554220882, 2821834349, 2952996808, 3210313671, 3336571891, 3584528711, 113926993, 338241895, 666307205, 773529912, 1294757372, 1396182291, 1695183700, 1986661051, 2177026350, 2456956037, 2730485921, 2820302411, 3259730800, 3345764771, 3516065817, 3600352804, 4094571909, 275423344, 430227734, 506948616, 659060556, 883997877, 958139571, 1322822218, 1537002063, 1747873779, 1955562222, 2024104815, 2227730452, 2361852424, 2428436474, 2756734187, 3204031479, 3329325298]
/-- A state: eight numbers of 32 bits. -/
structure H8 where
  a : Int
  b : Int
  c : Int
  d : Int
  e : Int
  f : Int
  g : Int
  h : Int
def H8.arr (x : H8) : Array Value := #[.int .u32 x.a, .int .u32 x.b, .int .u32 x.c, .int .u32 x.d, .int .u32 x.e, .int .u32 x.f, .int .u32 x.g, .int .u32 x.h]
structure H8.Ok (x : H8) : Prop where
  a : 0 ≤ x.a ∧ x.a < 4294967296
  b : 0 ≤ x.b ∧ x.b < 4294967296
  c : 0 ≤ x.c ∧ x.c < 4294967296
  d : 0 ≤ x.d ∧ x.d < 4294967296
  e : 0 ≤ x.e ∧ x.e < 4294967296
  f : 0 ≤ x.f ∧ x.f < 4294967296
  g : 0 ≤ x.g ∧ x.g < 4294967296
  h : 0 ≤ x.h ∧ x.h < 4294967296
def H8.list (x : H8) : List Int := [x.a, x.b, x.c, x.d, x.e, x.f, x.g, x.h]
theorem H8.arr_list (x : H8) : x.arr = u32A 8 x.list := rfl
def iH : H8 := ⟨1779033703, 3144134277, 1013904242, 2773480762, 1359893119, 2600822924, 528734635, 1541459225⟩
theorem iH_ok : iH.Ok := by constructor <;> decide
theorem kL_b : ∀ t, 0 ≤ at_ kL t ∧ at_ kL t < 4294967296 := fun t => by
  unfold at_
  rw [List.getD_eq_getElem?_getD]
  cases h : kL[t]? with
  | none => simp
  | some x =>
    have hm : x ∈ kL := List.mem_of_getElem? h
    have key : ∀ x ∈ kL, 0 ≤ x ∧ x < 4294967296 := by decide
    exact key x hm
theorem H8.ok_b {x : H8} (h : x.Ok) : ∀ t, 0 ≤ at_ x.list t ∧ at_ x.list t < 4294967296 := fun t => by
  unfold at_
  rw [List.getD_eq_getElem?_getD]
  cases e : x.list[t]? with
  | none => simp
  | some y =>
    have hm : y ∈ x.list := List.mem_of_getElem? e
    unfold H8.list at hm
    simp only [List.mem_cons, List.not_mem_nil, or_false] at hm
    rcases hm with rfl | rfl | rfl | rfl | rfl | rfl | rfl | rfl
    · exact h.a
    · exact h.b
    · exact h.c
    · exact h.d
    · exact h.e
    · exact h.f
    · exact h.g
    · exact h.h
def and32 (a b : Int) : Int := bits .and .u32 a b
def not32 (a : Int) : Int := bits .xor .u32 (if IntKind.u32.signed = true then -1 else IntKind.u32.max) a
theorem add_m (a b : Int) : add32 a b = (a + b) % 4294967296 := by
  unfold add32
  rw [IntKind.wrap_u32]
theorem add_q (p a b : Int) : add32 p (add32 a b) = (p + (a + b)) % 4294967296 := by
  rw [add_m, add_m]
  omega
/-- One round: p, q; the state behind it. -/
def cP (k w : Int) (x : H8) : Int := add32 (add32 (add32 (add32 x.h (xor32 (xor32 (rotr x.e 6) (rotr x.e 11)) (rotr x.e 25))) (xor32 (and32 x.e x.f) (and32 (not32 x.e) x.g))) k) w
def cQ (x : H8) : Int := add32 (xor32 (xor32 (rotr x.a 2) (rotr x.a 13)) (rotr x.a 22)) (xor32 (xor32 (and32 x.a x.b) (and32 x.a x.c)) (and32 x.b x.c))
def cR (k w : Int) (x : H8) : H8 := ⟨add32 (cP k w x) (cQ x), x.a, x.b, x.c, add32 x.d (cP k w x), x.e, x.f, x.g⟩
def rnds (K : Nat → Int) (W : List Int) (S : H8) : Nat → H8
  | 0 => S
  | t + 1 => cR (K t) (at_ W t) (rnds K W S t)
theorem cR_ok {k w : Int} {x : H8} (h : x.Ok) : (cR k w x).Ok := ⟨add32_b _ _, h.a, h.b, h.c, add32_b _ _, h.e, h.f, h.g⟩
theorem rnds_ok {K : Nat → Int} {W : List Int} {S : H8} (h : S.Ok) : ∀ t, (rnds K W S t).Ok
  | 0 => h
  | t + 1 => cR_ok (rnds_ok h t)
/-- Two states, number by number. -/
def H8.add (x y : H8) : H8 := ⟨add32 x.a y.a, add32 x.b y.b, add32 x.c y.c, add32 x.d y.d, add32 x.e y.e, add32 x.f y.f, add32 x.g y.g, add32 x.h y.h⟩
theorem H8.add_ok (x y : H8) : (x.add y).Ok := ⟨add32_b _ _, add32_b _ _, add32_b _ _, add32_b _ _, add32_b _ _, add32_b _ _, add32_b _ _, add32_b _ _⟩
/-- The first i numbers are sums. -/
def addTo (R S : List Int) (i : Nat) : List Int := (List.range 8).map fun j => if j < i then add32 (at_ R j) (at_ S j) else at_ R j
theorem addTo_0 (x : H8) (S : List Int) : addTo x.list S 0 = x.list := rfl
theorem addTo_8 (x y : H8) : u32A 8 (addTo x.list y.list 8) = (x.add y).arr := rfl
theorem addTo_len (R S : List Int) (i : Nat) : (addTo R S i).length = 8 := by simp [addTo]
theorem addTo_at {R S : List Int} {i : Nat} (h : i < 8) : at_ (addTo R S i) i = at_ R i := by
  rcases (by omega : i = 0 ∨ i = 1 ∨ i = 2 ∨ i = 3 ∨ i = 4 ∨ i = 5 ∨ i = 6 ∨ i = 7) with rfl | rfl | rfl | rfl | rfl | rfl | rfl | rfl <;> rfl
theorem addTo_set {R S : List Int} {i : Nat} (h : i < 8) : (u32A 8 (addTo R S i)).setIfInBounds i (.int .u32 (add32 (at_ R i) (at_ S i))) = u32A 8 (addTo R S (i + 1)) := by
  rcases (by omega : i = 0 ∨ i = 1 ∨ i = 2 ∨ i = 3 ∨ i = 4 ∨ i = 5 ∨ i = 6 ∨ i = 7) with rfl | rfl | rfl | rfl | rfl | rfl | rfl | rfl <;> rfl
/-- A block compressed into a state. -/
def compr (S : H8) (s : List Int) : H8 := (rnds (fun t => at_ kL t) (sprd s 64) S 64).add S
theorem compr_ok (S : H8) (s : List Int) : (compr S s).Ok := H8.add_ok _ _
/-- A text padded; the states behind its blocks; its hash. -/
def padL (b : List Int) : List Int := b ++ [128] ++ List.replicate ((119 - b.length % 64) % 64) 0 ++ beL 8 (8 * b.length)
def comprN (p : List Int) : Nat → H8
  | 0 => iH
  | k + 1 => compr (comprN p k) ((p.drop (64 * k)).take 64)
theorem comprN_ok (p : List Int) : ∀ k, (comprN p k).Ok
  | 0 => iH_ok
  | _ + 1 => compr_ok _ _
def hsh (b : List Int) : List Int := (comprN (padL b) ((padL b).length / 64)).list.flatMap fun x => beL 4 x.toNat
theorem padL_len (b : List Int) : (padL b).length % 64 = 0 := by
  simp only [padL, List.length_append, List.length_replicate, beL_len, List.length_cons, List.length_nil]
  omega
theorem padL_byt {b : List Int} (h : Byt b) : Byt (padL b) := by
  intro x hx
  unfold padL at hx
  simp only [List.mem_append, List.mem_cons, List.not_mem_nil, or_false] at hx
  rcases hx with ((hx | rfl) | hx) | hx
  · exact h x hx
  · omega
  · have := List.eq_of_mem_replicate hx
    omega
  · exact beL_byt _ _ x hx
theorem hsh_len (b : List Int) : (hsh b).length = 32 := rfl
theorem hsh_byt (b : List Int) : Byt (hsh b) := by
  intro x hx
  unfold hsh at hx
  obtain ⟨y, -, hy⟩ := List.mem_flatMap.1 hx
  exact beL_byt _ _ x hy
end Go.Proofs.YteeclfejgpgooaaDoor
/- sha: Compress. The constants are cells of their global. No condition else. -/
namespace Go.Proofs.YteeclfejgpgooaaDoor
set_option linter.unusedVariables false
set_option linter.unusedSimpArgs false
set_option linter.constructorNameAsVariable false
open Go.RowKit Go.Sort

theorem index_w {ws : List Int} {t : Nat} (h : t < 64) (hl : ws.length = 64) (w : World) : (Instr.index 139 (.agg (u32A 64 ws)) (.int .i64 (t : Int))).run Tryd.prog w = .ok (.int .u32 (at_ ws t)) w := by
  have hs : (sizeOf 23).run Tryd.prog w = .ok 1 w := by
    first | exact Tryd.sizeOf23 w | simp [Tryd.sizeOf23, go_sem] | kernel_rfl
  have hc : (u32A 64 ws)[t]? = some (.int .u32 (at_ ws t)) := u32A_get (by rw [hl]; exact h)
  have hp : (part 23 (u32A 64 ws) t).run Tryd.prog w = .ok (.int .u32 (at_ ws t)) w := by
    have hg : (isAgg 23).run Tryd.prog w = .ok false w := by
      first | kernel_rfl | simp [isAgg, run_underlying Tryd.underlying23, go_sem]
    simp [part, hg, hc, go_sem]
  have hn : (t : Int) < 64 := by omega
  simp [Instr.index, run_underlying Tryd.underlying139, asIntOf, hs, hp, hn, go_sem]
  rw [if_pos h, hc]
  simp
set_option maxHeartbeats 4000000 in
set_option maxRecDepth 100000 in
theorem compress_any (S : H8) (s : List Int) (w : World) (hK : ∀ t, t < 64 → w.cell? ⟨3, t, none⟩ = some (.int .u32 (at_ kL t))) (hS : S.Ok) (hs : s.length = 64) (hb : Byt s) : Calls Tryd.prog 78 #[.agg S.arr, .agg (secA s)] w fun e w' => e = .returned (.agg (compr S s).arr) ∧ New w w' := by
  have HS := Lib.hid hs
  have HB := Lib.hid hb
  have HO := Lib.hid hS
  have HK := Lib.hid hK
  clear hs hb hS hK
  have HADD : Hid (u32A 8 (addTo (rnds (fun t => at_ kL t) (sprd s 64) S 64).list S.list 8) = (compr S s).arr) := Lib.hid (addTo_8 _ _)
  obtain ⟨K, hKe⟩ : ∃ K : Nat → Int, K = fun t => at_ kL t := ⟨_, rfl⟩
  have hkb : ∀ t, 0 ≤ K t ∧ K t < 4294967296 := fun t => by rw [hKe]; exact kL_b t
  have HKB := Lib.hid hkb
  have HK2 : Hid (∀ t, t < 64 → w.cell? ⟨3, t, none⟩ = some (.int .u32 (K t))) := Lib.hid (by rw [hKe]; exact HK.out)
  rw [← hKe] at HADD
  clear hKe hkb HK
  obtain ⟨RA, hRA⟩ : ∃ RA, RA = (compr S s).arr := ⟨_, rfl⟩
  rw [← hRA]
  have HRA := Lib.hid hRA
  clear hRA
  obtain ⟨a, b, c, d, e, f, g, hz⟩ := S
  unfold H8.arr
  dsimp only
  go_enter Tryd.func78, Tryd.ntmps78
  go_upto_region 2 with fail
  obtain ⟨w1, hw1⟩ : ∃ w1 : World, w1 = (((w.alloc (.cells #[.int .u32 a, .int .u32 b, .int .u32 c, .int .u32 d, .int .u32 e, .int .u32 f, .int .u32 g, .int .u32 hz] 134)).alloc (.cells (secA s) 34)).alloc (.cells #[.int .u32 0, .int .u32 0, .int .u32 0, .int .u32 0, .int .u32 0, .int .u32 0, .int .u32 0, .int .u32 0] 134)).alloc (.cells #[.int .u32 a, .int .u32 b, .int .u32 c, .int .u32 d, .int .u32 e, .int .u32 f, .int .u32 g, .int .u32 hz] 134) := ⟨_, rfl⟩
  obtain ⟨b3, hb3⟩ : ∃ b3, b3 = w.heap.size + 1 := ⟨_, rfl⟩
  obtain ⟨b4, hb4⟩ : ∃ b4, b4 = w.heap.size + 1 + 1 := ⟨_, rfl⟩
  obtain ⟨b5, hb5⟩ : ∃ b5, b5 = w.heap.size + 1 + 1 + 1 := ⟨_, rfl⟩
  obtain ⟨b2, hb2⟩ : ∃ b2, b2 = w.heap.size := ⟨_, rfl⟩
  have HN1 : Hid (New w w1) := Lib.hid (by rw [hw1]; exact New.al (New.al (New.al (New.al (New.refl _) _) _) _) _)
  have HB2 : Hid (Blk w1 b2 134 (H8.arr ⟨a, b, c, d, e, f, g, hz⟩)) := Lib.hid (by rw [hw1, hb2]; exact (((Blk.new _ _ _).alloc _).alloc _).alloc _)
  have HB3 : Hid (Blk w1 b3 34 (secA s)) := Lib.hid (by rw [hw1, hb3]; exact ((Blk.new' _ _ _ (by simp)).alloc _).alloc _)
  have HB4 : Hid (Blk w1 b4 134 (u32A 8 [])) := Lib.hid (by rw [hw1, hb4]; exact (Blk.new' _ _ _ (by simp)).alloc _)
  have HB5 : Hid (Blk w1 b5 134 (H8.arr ⟨a, b, c, d, e, f, g, hz⟩)) := Lib.hid (by rw [hw1, hb5]; exact Blk.new' _ _ _ (by simp))
  have HZ : Hid (b2 = w.heap.size ∧ b3 = w.heap.size + 1 ∧ b4 = w.heap.size + 2 ∧ b5 = w.heap.size + 3) := Lib.hid ⟨hb2, hb3, hb4, hb5⟩
  rw [← hw1, ← hb5, ← hb4, ← hb3, ← hb2]
  clear hw1 hb2 hb3 hb4 hb5
  have hss : (secA s).size = 64 := by rw [secA_size, HS.out]
  go_wp2_with ((with_reducible refine atOp ⟨some 18, .load _ _, _, _, _, _⟩ ?_); refine wpList_load_any rfl _ rfl Tryd.underlying34 rfl (by rw [hss]; rfl) rfl HB3.out ?_)
  refine (spread_any s w1 HS.out HB.out).mono ?_
  rintro ee w2 ⟨rfl, hN2⟩
  have HB2 := Lib.hid (hN2.blk HB2.out)
  have HB5 := Lib.hid (hN2.blk HB5.out)
  have HB4 := Lib.hid (hN2.blk HB4.out)
  have HN2 : Hid (New w w2) := Lib.hid (HN1.out.tr hN2)
  clear hN2 hss
  obtain ⟨ws, hws⟩ : ∃ ws, ws = sprd s 64 := ⟨_, rfl⟩
  have HWS := Lib.hid hws
  have HWL : Hid (ws.length = 64) := Lib.hid (by rw [hws]; exact sprd_len s 64)
  rw [← hws]
  clear hws
  go_wp2_with fail
  go_loopw [20] (fun i wr => ∃ (t : Nat), t ≤ 64 ∧ i = .int .i64 t ∧ Hid (New w wr) ∧ Hid (Blk wr b4 134 (u32A 8 [])) ∧ Hid (Blk wr b2 134 (H8.arr ⟨a, b, c, d, e, f, g, hz⟩)) ∧ Hid (Blk wr b5 134 (rnds K ws ⟨a, b, c, d, e, f, g, hz⟩ t).arr)) (fun i _ => 64 - (intOf i).toNat)
  case atStart => exact ⟨0, Nat.zero_le _, rfl, HN2, HB4, HB2, HB5⟩
  case round =>
    clear HB2 HB4 HB5 HN2 HN1
    obtain ⟨t, ht, rfl, HN, HB4, HB2, HB5⟩ := hrel
    by_cases hlt : t < 64
    · have ht0 : (0 : Int) ≤ (t : Int) := by omega
      have ht6 : (t : Int) < 64 := by omega
      have hok := rnds_ok (K := K) (W := ws) HO.out t
      obtain ⟨x, hx⟩ : ∃ x, x = rnds K ws ⟨a, b, c, d, e, f, g, hz⟩ t := ⟨_, rfl⟩
      rw [← hx] at hok
      have HX := Lib.hid hx
      have HBX : Hid (Blk wr b5 134 x.arr) := Lib.hid (by rw [hx]; exact HB5.out)
      clear hx HB5
      obtain ⟨xa, xb, xc, xd, xe, xf, xg, xh⟩ := x
      have hea : 0 ≤ xa ∧ xa < 4294967296 := hok.a
      have hee : 0 ≤ xe ∧ xe < 4294967296 := hok.e
      have c0 : wr.cell? ⟨b5, 0, none⟩ = some (.int .u32 xa) := HBX.out.cell 0
      have c1 : wr.cell? ⟨b5, 1, none⟩ = some (.int .u32 xb) := HBX.out.cell 1
      have c2 : wr.cell? ⟨b5, 2, none⟩ = some (.int .u32 xc) := HBX.out.cell 2
      have c3 : wr.cell? ⟨b5, 3, none⟩ = some (.int .u32 xd) := HBX.out.cell 3
      have c4 : wr.cell? ⟨b5, 4, none⟩ = some (.int .u32 xe) := HBX.out.cell 4
      have c5 : wr.cell? ⟨b5, 5, none⟩ = some (.int .u32 xf) := HBX.out.cell 5
      have c6 : wr.cell? ⟨b5, 6, none⟩ = some (.int .u32 xg) := HBX.out.cell 6
      have c7 : wr.cell? ⟨b5, 7, none⟩ = some (.int .u32 xh) := HBX.out.cell 7
      have hwt : (u32A 64 ws)[t]? = some (.int .u32 (at_ ws t)) := u32A_get (by rw [HWL.out]; exact hlt)
      have hwz : (u32A 64 ws).size = 64 := u32A_size (by rw [HWL.out]; exact Nat.le_refl _)
      have hix := index_w hlt HWL.out
      go_wp2_with fail
      refine wp_region_mixH (New wr) [(true, 0), (true, 1), (true, 2), (true, 3), (true, 4), (true, 5), (true, 6), (true, 7), (true, 8), (true, 9), (true, 10), (true, 11), (true, 12), (true, 13), (true, 14), (true, 15), (true, 16), (true, 17)] (by kernel_rfl) (by kernel_rfl) (New.dr (New.refl wr)) (fun hne => ?_)
      have q0 : ∀ p : HW (New wr), p.w.cell? ⟨b5, 0, none⟩ = some (.int .u32 xa) := fun p => p.h.cell_ c0
      have q1 : ∀ p : HW (New wr), p.w.cell? ⟨b5, 1, none⟩ = some (.int .u32 xb) := fun p => p.h.cell_ c1
      have q2 : ∀ p : HW (New wr), p.w.cell? ⟨b5, 2, none⟩ = some (.int .u32 xc) := fun p => p.h.cell_ c2
      have q4 : ∀ p : HW (New wr), p.w.cell? ⟨b5, 4, none⟩ = some (.int .u32 xe) := fun p => p.h.cell_ c4
      have q5 : ∀ p : HW (New wr), p.w.cell? ⟨b5, 5, none⟩ = some (.int .u32 xf) := fun p => p.h.cell_ c5
      have q6 : ∀ p : HW (New wr), p.w.cell? ⟨b5, 6, none⟩ = some (.int .u32 xg) := fun p => p.h.cell_ c6
      iterate 18 (refine mix_take (o := ⟨_, _, _, _, _, _⟩) rfl (fun K hK => ?_); go_simp; refine hK _ ?_; clear hK K)
      clear q0 q1 q2 q4 q5 q6 hne
      refine mix_done ?_
      have k7 := cell_regrown (show (wr.drew).cell? ⟨b5, 7, none⟩ = some (.int .u32 xh) from c7)
      have kK := cell_regrown (show (wr.drew).cell? ⟨3, t, none⟩ = some (.int .u32 (K t)) from HN.out.cell_ (HK2.out t hlt))
      have cT : ∀ (x : Int) (k : Nat), (0 ≤ x ∧ x < 4294967296) → (1 ≤ k ∧ k ≤ 31) → ∀ d os, Calls Tryd.prog 81 #[.int .u32 x, .int .i64 (k : Int)] (grow (redrawn wr.drew d) os) fun e w'' => e = .returned (.int .u32 (rotr x k)) ∧ ∃ p : Regrown, w'' = grow (redrawn wr.drew p.d) p.os :=
        fun x k hx hk => calls_regrown (fun W _ => (turn_any x k W hx hk).mono fun e w' h => ⟨h.1, by rw [← h.2]; exact New.refl _⟩)
      have t1 := cT xe 6 hee (by omega)
      have t2 := cT xe 11 hee (by omega)
      have t3 := cT xe 25 hee (by omega)
      clear cT hix hwt hwz
      go_wp2_with fail
      refine wp_region_quiet_below (by kernel_rfl) (by kernel_rfl) ?_
      repeat (quiet_step (first | exact t1 _ _ | exact t2 _ _ | exact t3 _ _))
      refine wpQuiet_nil ?_
      intro _ hw'
      obtain ⟨⟨dq, osq⟩, hw''⟩ := hw'
      obtain ⟨Wq, hWq⟩ : ∃ Wq, Wq = grow (redrawn wr.drew dq) osq := ⟨_, rfl⟩
      have HNq : Hid (New wr Wq) := Lib.hid (New.tr (New.dr (New.refl wr)) (by rw [hWq]; exact below_regrown _ dq osq))
      rw [hw'', ← hWq]
      clear hw'' hWq t1 t2 t3 k7 kK
      obtain ⟨pv, hpv⟩ : ∃ pv, pv = cP (K t) (at_ ws t) ⟨xa, xb, xc, xd, xe, xf, xg, xh⟩ := ⟨_, rfl⟩
      have hpv2 : IntKind.u32.wrap (IntKind.u32.wrap (IntKind.u32.wrap (IntKind.u32.wrap (xh + bits BinOp.xor .u32 (bits BinOp.xor .u32 (rotr xe 6) (rotr xe 11)) (rotr xe 25)) + bits BinOp.xor .u32 (bits BinOp.and .u32 xe xf) (bits BinOp.and .u32 (bits BinOp.xor .u32 (if IntKind.u32.signed = true then -1 else IntKind.u32.max) xe) xg)) + K t) + at_ ws t) = pv := hpv.symm
      rw [hpv2]
      have HPV := Lib.hid hpv
      clear hpv hpv2
      have d3 : Wq.cell? ⟨b5, 3, none⟩ = some (.int .u32 xd) := HNq.out.cell_ c3
      clear c0 c1 c2 c3 c4 c5 c6 c7
      go_wp2_with fail
      refine (turn_any xa 2 Wq hea (by omega)).mono ?_
      rintro ee w5 ⟨rfl, rfl⟩
      go_wp2_with fail
      refine (turn_any xa 13 Wq hea (by omega)).mono ?_
      rintro ee w5 ⟨rfl, rfl⟩
      go_wp2_with fail
      refine (turn_any xa 22 Wq hea (by omega)).mono ?_
      rintro ee w5 ⟨rfl, rfl⟩
      have HBq : Hid (Blk Wq b5 134 (H8.arr ⟨xa, xb, xc, xd, xe, xf, xg, xh⟩)) := Lib.hid (HNq.out.blk HBX.out)
      go_wp2_with ((with_reducible refine atOp ⟨none, .store 134 (.tmp 5) _, _, _, _, _⟩ ?_); refine wpList_store_any rfl (.tmp 5) (.tmp 95) rfl rfl rfl rfl HBq.out rfl (by simp [Value.oneCell']) ?_; intro w8 hb8 hf8; have HB8 := Lib.hid hb8; have HF8 := Lib.hid hf8; clear hb8 hf8)
      have HN8 : Hid (New w w8) := Lib.hid ((HN.out.tr HNq.out).fr HF8.out (fun k hk => by have := HZ.out; omega))
      have HB28 : Hid (Blk w8 b2 134 (H8.arr ⟨a, b, c, d, e, f, g, hz⟩)) := Lib.hid ((HNq.out.blk HB2.out).fr HF8.out (by have := HZ.out; omega))
      have HB48 : Hid (Blk w8 b4 134 (u32A 8 [])) := Lib.hid ((HNq.out.blk HB4.out).fr HF8.out (by have := HZ.out; omega))
      have HB58 : Hid (Blk w8 b5 134 (rnds K ws ⟨a, b, c, d, e, f, g, hz⟩ (t + 1)).arr) := Lib.hid (by
        show Blk w8 b5 134 (cR (K t) (at_ ws t) (rnds K ws ⟨a, b, c, d, e, f, g, hz⟩ t)).arr
        rw [← HX.out]
        have e1 : add32 pv (cQ ⟨xa, xb, xc, xd, xe, xf, xg, xh⟩) = (pv + (xor32 (xor32 (rotr xa 2) (rotr xa 13)) (rotr xa 22) + xor32 (xor32 (and32 xa xb) (and32 xa xc)) (and32 xb xc))) % 4294967296 := add_q _ _ _
        have e2 := add_m xd pv
        unfold cR H8.arr
        rw [← HPV.out]
        dsimp only
        rw [e1, e2]
        exact HB8.out)
      go_roundw
      case rel => exact ⟨t + 1, by omega, by go_num, HN8, HB48, HB28, HB58⟩
      case measure => simp [intOf]; omega
    · have HT64 : Hid (t = 64) := Lib.hid (by omega)
      have hn64 : ¬ (t : Int) < 64 := by omega
      obtain ⟨R, hR⟩ : ∃ R, R = rnds K ws ⟨a, b, c, d, e, f, g, hz⟩ 64 := ⟨_, rfl⟩
      have HRO : Hid R.Ok := Lib.hid (by rw [hR]; exact rnds_ok HO.out 64)
      have HB5R : Hid (Blk wr b5 134 (u32A 8 (addTo R.list (H8.list ⟨a, b, c, d, e, f, g, hz⟩) 0))) := Lib.hid (by rw [hR, ← HT64.out]; exact HB5.out)
      obtain ⟨SL, hSL⟩ : ∃ SL, SL = H8.list ⟨a, b, c, d, e, f, g, hz⟩ := ⟨_, rfl⟩
      have HB2S : Hid (Blk wr b2 134 (u32A 8 SL)) := Lib.hid (by rw [hSL]; exact HB2.out)
      have HSB : Hid (SL.length = 8) := Lib.hid (by rw [hSL]; rfl)
      have HEND : Hid (u32A 8 (addTo R.list SL 8) = (compr ⟨a, b, c, d, e, f, g, hz⟩ s).arr) := Lib.hid (by rw [hR, hSL, HWS.out]; exact HADD.out)
      rw [← hSL] at HB5R
      have HNr := HN
      have HB4r := HB4
      clear hR hSL HB5 HB2 HADD HN HB4
      obtain ⟨wo, hwo⟩ : ∃ wo : World, wo = wr := ⟨_, rfl⟩
      rw [← hwo] at HB5R HB2S HNr HB4r ⊢
      clear hwo
      go_wp2_with fail
      clear hn64 hlt ht HT64
      go_loopw [97] (fun i wr => ∃ (k : Nat), k ≤ 8 ∧ i = .int .i64 k ∧ Hid (New w wr) ∧ Hid (Blk wr b4 134 (u32A 8 [])) ∧ Hid (Blk wr b2 134 (u32A 8 SL)) ∧ Hid (Blk wr b5 134 (u32A 8 (addTo R.list SL k)))) (fun i _ => 8 - (intOf i).toNat)
      case atStart => exact ⟨0, Nat.zero_le _, rfl, HNr, HB4r, HB2S, HB5R⟩
      case round =>
        clear HNr HB4r HB2S HB5R
        obtain ⟨k, hk, rfl, HN, HB4, HB2, HB5⟩ := hrel
        by_cases hlk : k < 8
        · have hk0 : (0 : Int) ≤ (k : Int) := by omega
          have hk8 : (k : Int) < 8 := by omega
          have c5 : wr.cell? ⟨b5, k, none⟩ = some (.int .u32 (at_ R.list k)) := by
            rw [HB5.out.cell k, u32A_get (by rw [addTo_len]; exact hlk), addTo_at hlk]
          have c2 : wr.cell? ⟨b2, k, none⟩ = some (.int .u32 (at_ SL k)) := by
            rw [HB2.out.cell k, u32A_get (by rw [HSB.out]; exact hlk)]
          have HC5 := Lib.hid c5
          have d5 := cell_regrown c5
          have d2 := cell_regrown c2
          clear c5 c2
          go_wp2_with fail
          refine wp_region_tail 8 (by kernel_rfl) (by kernel_rfl) ?_
          simp only [List.take_succ_cons, List.take_zero, List.drop_succ_cons, List.drop_zero]
          repeat (quiet_step (fail))
          refine wpQuiet_nil ?_
          intro Wq hNq
          have HNq : Hid (New wr Wq) := Lib.hid hNq
          have e5 : Wq.cell? ⟨b5, k, none⟩ = some (.int .u32 (at_ R.list k)) := HNq.out.cell_ HC5.out
          have f5 : Wq.frozen? ⟨b5, k, none⟩ = false := (HNq.out.blk HB5.out).frozen k
          clear d5 d2 hNq
          obtain ⟨v, hv⟩ : ∃ v, v = add32 (at_ R.list k) (at_ SL k) := ⟨_, rfl⟩
          have hv2 : IntKind.u32.wrap (at_ R.list k + at_ SL k) = v := hv.symm
          try rw [hv2]
          have HV := Lib.hid hv
          clear hv hv2
          have HF : Hid (Fr (fun j => j = b5) Wq (Wq.setCell ⟨b5, k, none⟩ (.int .u32 v))) := Lib.hid ((Fr.refl (fun j => j = b5) Wq).setCell (p := ⟨b5, k, none⟩) (fun _ => rfl) _)
          have HN6 : Hid (New w (Wq.setCell ⟨b5, k, none⟩ (.int .u32 v))) := Lib.hid ((HN.out.tr HNq.out).fr HF.out (fun k hk => by have := HZ.out; omega))
          have HB46 : Hid (Blk (Wq.setCell ⟨b5, k, none⟩ (.int .u32 v)) b4 134 (u32A 8 [])) := Lib.hid ((HNq.out.blk HB4.out).fr HF.out (by have := HZ.out; omega))
          have HB26 : Hid (Blk (Wq.setCell ⟨b5, k, none⟩ (.int .u32 v)) b2 134 (u32A 8 SL)) := Lib.hid ((HNq.out.blk HB2.out).fr HF.out (by have := HZ.out; omega))
          have HB56 : Hid (Blk (Wq.setCell ⟨b5, k, none⟩ (.int .u32 v)) b5 134 (u32A 8 (addTo R.list SL (k + 1)))) := Lib.hid (by
            have := (HNq.out.blk HB5.out).set k (.int .u32 v)
            rw [HV.out, addTo_set hlk] at this
            rw [HV.out]
            exact this)
          go_wp2_with fail
          go_roundw
          case rel => exact ⟨k + 1, by omega, by go_num, HN6, HB46, HB26, HB56⟩
          case measure => simp [intOf]; omega
        · obtain rfl : k = 8 := by omega
          have hsz : (u32A 8 (addTo R.list SL 8)).size = 8 := u32A_size (by rw [addTo_len]; exact Nat.le_refl _)
          have hsz0 : (u32A 8 []).size = (u32A 8 (addTo R.list SL 8)).size := by rw [hsz]; exact u32A_size (by simp)
          go_wp2_with (first
            | ((with_reducible refine atOp ⟨some 109, .load _ _, _, _, _, _⟩ ?_); refine wpList_load_any rfl _ rfl Tryd.underlying134 rfl (by rw [hsz]; rfl) rfl HB5.out ?_)
            | ((with_reducible refine atOp ⟨none, .store 134 (.tmp 4) _, _, _, _, _⟩ ?_); refine wpList_store_any rfl (.tmp 4) (.tmp 109) rfl (by rw [hsz]; rfl) rfl rfl HB4.out hsz0 (u32A_one _ _) ?_; intro w8 hb8 hf8; have HB8 := Lib.hid hb8; have HF8 := Lib.hid hf8; clear hb8 hf8))
          rw [HRA.out, ← HEND.out]
          exact bodyPost_ret (v := .agg (u32A 8 (addTo R.list SL 8))) (results_rowA rfl _ _ b4 _ _ rfl HB8.out Tryd.underlying134 rfl (by rw [hsz]; rfl)) rfl ⟨rfl, HN.out.fr HF8.out (fun k hk => by have := HZ.out; omega)⟩
end Go.Proofs.YteeclfejgpgooaaDoor
/- Maps that a call makes, with elements of whatever type: a map is told by a function from its keys to values. No condition. -/
namespace Go.Proofs.YteeclfejgpgooaaDoor
set_option linter.unusedVariables false
set_option linter.unusedSimpArgs false
set_option linter.constructorNameAsVariable false
open Go.RowKit Go.Maps

/-- An element as itself. -/
def Rv (v : Value) : Option (DataW Value × List MemPlace) := some (.held v, [])
def valOf : DataW Value → Value | .held v => v | _ => undef

/-- f, but v at key kl. -/
def putF (f : Lit → Option Value) (kl : Lit) (v : Option Value) : Lit → Option Value := fun x => if x.sameKey kl then v else f x
theorem putF_same {f : Lit → Option Value} {kl : Lit} (hk : WideAt.IsKeyLit kl) (v : Option Value) : putF f kl v kl = v := by
  unfold putF
  rw [if_pos (by cases kl <;> simp_all [Lit.sameKey, WideAt.IsKeyLit])]
theorem putF_other {f : Lit → Option Value} {kl x : Lit} (h : x ≠ kl) (v : Option Value) : putF f kl v x = f x := by
  unfold putF
  rw [if_neg (by rw [Maps.sameKey_ne h]; simp)]
theorem putF_int {f : Lit → Option Value} {q : IntKind} (a b : Int) (v : Option Value) : putF f (.int q a) v (.int q b) = if b = a then v else f (.int q b) := by
  by_cases h : b = a
  · subst h; rw [if_pos rfl]; exact putF_same (kl := .int q b) trivial v
  · rw [if_neg h]; exact putF_other (by simpa using h) v

/-- Block b is a map of at most n entries: f says of each key what it holds. -/
def MapAt (w : World) (P : Program) (k : TypeId) (b n : Nat) (f : Lit → Option Value) : Prop :=
  ∃ D : DataW Value, w.ownsMap P k Rv b n D ∧ ∀ kl, f kl = if Maps.has D kl then some (valOf (D.atKey kl (.held undef))) else none

section
variable {P : Program} {k : TypeId} {w w' : World} {b n : Nat} {f : Lit → Option Value}
theorem MapAt.lt (h : MapAt w P k b n f) : b < w.heap.size := by obtain ⟨D, hD, _⟩ := h; exact hD.lt
theorem MapAt.mono (h : MapAt w P k b n f) {m : Nat} (hm : n ≤ m) : MapAt w P k b m f := by obtain ⟨D, hD, hf⟩ := h; exact ⟨D, hD.mono hm, hf⟩
theorem MapAt.fr {S : Nat → Prop} (h : MapAt w P k b n f) (hf : Fr S w w') (hs : ¬ S b) : MapAt w' P k b n f := by
  obtain ⟨D, hD, h2⟩ := h
  have hlt := hD.lt
  obtain ⟨es, clock, hb, F, hsz, e⟩ := hD
  exact ⟨D, ⟨es, clock, (hf.block b hlt hs).trans hb, F, hsz, e⟩, h2⟩
theorem MapAt.alloc (h : MapAt w P k b n f) (o : Obj) : MapAt (w.alloc o) P k b n f := h.fr (S := NoB) ((Fr.refl _ _).alloc _) (fun x => x)
theorem MapAt.made (w : World) (P : Program) (k : TypeId) : MapAt (w.alloc (.map #[] 0)) P k w.heap.size 0 (fun _ => none) :=
  ⟨.map [], World.ownsMap_made w P k Rv, fun kl => by simp [Maps.has]⟩

/-- What a look-up finds. -/
theorem MapAt.look {t e : TypeId} (h : MapAt w P k b n f) (K : Keyed P k) (ht : P.underlying t = some (.map k e)) {z : Value} (hz : (zeroValue e).run P w = .ok z w) {key : Value} {kl : Lit} (hkey : keyOf P k key = some kl) :
    (Instr.lookup t (.map (some b)) key true).run P w = .ok (.tuple #[(f kl).getD z, .bool (f kl).isSome]) w ∧ (Instr.lookup t (.map (some b)) key false).run P w = .ok ((f kl).getD z) w := by
  obtain ⟨D, hD, hf⟩ := h
  obtain ⟨es, clock, hb, F, _, rfl⟩ := hD
  rcases Maps.fit_look true K ht hz hb F hkey with ⟨hrun, _, hat⟩ | ⟨e0, y, _, _, hrun, hRv, hat, _⟩
  · have hh := Maps.has_false_of_atKey hat
    rcases Maps.fit_look false K ht hz hb F hkey with ⟨hrun', _, hat'⟩ | ⟨e0', y', _, _, hrun', hRv', hat', _⟩
    · rw [hf kl, hh]; exact ⟨hrun, hrun'⟩
    · exact absurd (Maps.has_true_of_atKey hat') (by rw [hh]; simp)
  · have hh := Maps.has_true_of_atKey hat
    have hy : y = (.held e0.val, []) := by unfold Rv at hRv; injection hRv with hRv; exact hRv.symm
    rcases Maps.fit_look false K ht hz hb F hkey with ⟨hrun', _, hat'⟩ | ⟨e0', y', _, _, hrun', hRv', hat', _⟩
    · exact absurd (Maps.has_false_of_atKey hat') (by rw [hh]; simp)
    · have hy' : y' = (.held e0'.val, []) := by unfold Rv at hRv'; injection hRv' with hRv'; exact hRv'.symm
      have e1 := hat (.held undef)
      have e2 := hat' (.held undef)
      rw [e1, hy, hy'] at e2
      injection e2 with e2
      rw [hf kl, hh, if_pos rfl, e1, hy]
      refine ⟨hrun, ?_⟩
      rw [hrun', ← e2]; rfl

/-- What a store leaves. -/
theorem MapAt.store {t e : TypeId} (h : MapAt w P k b n f) (K : Keyed P k) (ht : P.underlying t = some (.map k e)) (hn : n < maxLen) {key : Value} {kl : Lit} (hkey : keyOf P k key = some kl) (val : Value) :
    ∃ w', (Instr.mapUpdate t (.map (some b)) key val).run P w = .ok () w' ∧ MapAt w' P k b (n + 1) (putF f kl (some val)) ∧ Fr (fun j => j = b) w w' := by
  obtain ⟨D, hD, hf⟩ := h
  obtain ⟨w', hrun, h1, h2⟩ := hD.update K ht hn hkey (show Rv val = some (.held val, []) from rfl)
  refine ⟨w', hrun, ⟨_, h1, fun x => ?_⟩, (Fr.refl _ _).grown h2 (fun j _ hj => by injection hj with hj; exact hj.symm)⟩
  by_cases hx : x = kl
  · subst hx
    rw [putF_same (K.key hkey), Maps.has_put_same hD.isMap (K.key hkey), Maps.atKey_put_same hD.isMap (K.key hkey)]
    rfl
  · rw [putF_other hx, Maps.has_put_other hx, Maps.atKey_put_other hx, hf x]

/-- What a delete leaves. -/
theorem MapAt.drop {t e : TypeId} (h : MapAt w P k b n f) (K : Keyed P k) (ht : P.underlying t = some (.map k e)) {key : Value} {kl : Lit} (hkey : keyOf P k key = some kl) (ty : TypeId) :
    ∃ w', (Builtin.delete_ #[t, k] ty #[.map (some b), key]).run P w = .ok (.tuple #[]) w' ∧ MapAt w' P k b n (putF f kl none) ∧ Fr (fun j => j = b) w w' := by
  obtain ⟨D, hD, hf⟩ := h
  obtain ⟨w', hrun, h1, h2⟩ := hD.drop K ht hkey ty
  refine ⟨w', hrun, ⟨_, h1, fun x => ?_⟩, (Fr.refl _ _).grown h2.grown (fun j _ hj => by injection hj with hj; exact hj.symm)⟩
  by_cases hx : x = kl
  · subst hx
    rw [putF_same (K.key hkey), Maps.has_del_same]; rfl
  · rw [putF_other hx, Maps.has_del_other hx, Maps.atKey_del_other hx, hf x]
end

section
variable {P : Program} {w : World} {ops : Array Oper} {rest : List Oper} {o : Oper} {a : Act} {Q : Exit → Act → World → Prop} {b n : Nat} {f : Lit → Option Value}
/-- 'v, ok := m[k]' at the operation: 'v', 'ok' written out by whoever calls. -/
theorem wpList_mlook2 {k e t : TypeId} (hM : MapAt w P k b n f) (K : Keyed P k) (ht : P.underlying t = some (.map k e)) {z : Value} (hz : (zeroValue e).run P w = .ok z w) (hg : o.guard = none) (m x : Operand) (hop : o.op = Op.lookup t m x true)
    (hm : a.eval m = .map (some b)) (key : Value) (kl : Lit) (hx : a.eval x = key) (hkey : keyOf P k key = some kl) (v : Value) (ok : Bool) (hv : (f kl).getD z = v) (hok : (f kl).isSome = ok)
    (hK : wpList P ops Q rest (a.put o.dst (.tuple #[v, .bool ok])) w) : wpList P ops Q (o :: rest) a w := by
  refine wpList_plain hg fun K' hK' => ?_
  have hrun := (hM.look K ht hz hkey).1
  rw [hv, hok] at hrun
  unfold Oper.wp
  simp [execOp, hop, hm, hx, hrun, Result.andThen]
  exact hK' _ _ hK
theorem wpList_mlook1 {k e t : TypeId} (hM : MapAt w P k b n f) (K : Keyed P k) (ht : P.underlying t = some (.map k e)) {z : Value} (hz : (zeroValue e).run P w = .ok z w) (hg : o.guard = none) (m x : Operand) (hop : o.op = Op.lookup t m x false)
    (hm : a.eval m = .map (some b)) (key : Value) (kl : Lit) (hx : a.eval x = key) (hkey : keyOf P k key = some kl) (v : Value) (hv : (f kl).getD z = v)
    (hK : wpList P ops Q rest (a.put o.dst v) w) : wpList P ops Q (o :: rest) a w := by
  refine wpList_plain hg fun K' hK' => ?_
  have hrun := (hM.look K ht hz hkey).2
  rw [hv] at hrun
  unfold Oper.wp
  simp [execOp, hop, hm, hx, hrun, Result.andThen]
  exact hK' _ _ hK
theorem wpList_mstore {k e t : TypeId} (hM : MapAt w P k b n f) (K : Keyed P k) (ht : P.underlying t = some (.map k e)) (hn : n < maxLen) (hg : o.guard = none) (m x v : Operand) (hop : o.op = Op.mapUpdate t m x v)
    (hm : a.eval m = .map (some b)) (key val : Value) (kl : Lit) (hx : a.eval x = key) (hv : a.eval v = val) (hkey : keyOf P k key = some kl)
    (hK : ∀ w', MapAt w' P k b (n + 1) (putF f kl (some val)) → Fr (fun j => j = b) w w' → wpList P ops Q rest (a.put o.dst undef) w') : wpList P ops Q (o :: rest) a w := by
  refine wpList_plain hg fun K' hK' => ?_
  obtain ⟨w', hrun, r1, r2⟩ := hM.store K ht hn hkey val
  unfold Oper.wp
  simp [execOp, hop, hm, hx, hv, hrun, Result.andThen]
  exact hK' _ _ (hK w' r1 r2)
theorem wpList_mdel {k e t : TypeId} (hM : MapAt w P k b n f) (K : Keyed P k) (ht : P.underlying t = some (.map k e)) (hg : o.guard = none) (m x : Operand) (hop : o.op = Op.call { callee := Callee.builtin Builtin.delete, args := #[m, x], argTypes := #[t, k] })
    (hm : a.eval m = .map (some b)) (key : Value) (kl : Lit) (hx : a.eval x = key) (hkey : keyOf P k key = some kl)
    (hK : ∀ w', MapAt w' P k b n (putF f kl none) → Fr (fun j => j = b) w w' → wpList P ops Q rest (a.put o.dst (.tuple #[])) w') : wpList P ops Q (o :: rest) a w := by
  refine wpList_plain hg fun K' hK' => ?_
  obtain ⟨w', hrun, r1, r2⟩ := hM.drop K ht hkey o.type
  unfold Oper.wp
  simp [execOp, hop, resolve, invoke, builtin, hm, hx, hrun, Result.andThen]
  exact hK' _ _ (hK w' r1 r2)
theorem step_mstore {k e t : TypeId} {K : Act → World → Prop} {F : Prop} (hM : MapAt w P k b n f) (KK : Keyed P k) (ht : P.underlying t = some (.map k e)) (hn : n < maxLen) (hg : o.guard = none) (m x v : Operand) (hop : o.op = Op.mapUpdate t m x v)
    (hm : a.eval m = .map (some b)) (key val : Value) (kl : Lit) (hx : a.eval x = key) (hv : a.eval v = val) (hkey : keyOf P k key = some kl)
    (hK : ∀ w', MapAt w' P k b (n + 1) (putF f kl (some val)) → Fr (fun j => j = b) w w' → K (a.put o.dst undef) w') :
    if Region.wanted o (yielded ops a.tmps) = true then Oper.wp P o a w K Q else F := by
  have hw : Region.wanted o (yielded ops a.tmps) = true := by simp [Region.wanted, hg]
  rw [if_pos hw]
  obtain ⟨w', hrun, r1, r2⟩ := hM.store KK ht hn hkey val
  unfold Oper.wp
  simp [execOp, hop, hm, hx, hv, hrun, Result.andThen]
  exact hK w' r1 r2
end
end Go.Proofs.YteeclfejgpgooaaDoor
