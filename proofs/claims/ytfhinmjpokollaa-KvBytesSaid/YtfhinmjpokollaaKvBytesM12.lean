/- Texts of one proof, one behind the other: KvW, OrA, OrB, OrC. No condition but each one's own. -/
import Derived.Test.YtfhinmjpokollaaKvBytesM11
/- A batch's bytes, read, are that batch: in plain words. No condition. -/
namespace Go.Proofs.Ytfhinmjpokollaa
set_option linter.unusedVariables false
set_option linter.unusedSimpArgs false
set_option linter.constructorNameAsVariable false
open Go.RowKit Go.Maps Go.Sort

theorem raw_app (xs rest : List Int) : (⟨xs ++ rest, 0⟩ : Rs).raw xs.length = (xs, ⟨rest, 0⟩) := by
  have hl : (⟨xs ++ rest, 0⟩ : Rs).left = xs.length + rest.length := by
    unfold Rs.left
    simp
  unfold Rs.raw
  rw [hl, if_neg (by omega)]
  simp
theorem num_app (size n : Nat) (rest : List Int) (h : n < 256 ^ size) : (⟨beL size n ++ rest, 0⟩ : Rs).num size = (n, ⟨rest, 0⟩) := by
  unfold Rs.num
  have := raw_app (beL size n) rest
  rw [beL_len] at this
  rw [this, valL_beL size n h]
theorem bytes_app (m most : Nat) (ys rest : List Int) (hm : ys.length = m) (h1 : m ≤ most) (h2 : m < 65536) : (⟨beL 2 m ++ (ys ++ rest), 0⟩ : Rs).bytes most = (ys, ⟨rest, 0⟩) := by
  have hl : (⟨beL 2 m ++ (ys ++ rest), 0⟩ : Rs).left = 2 + m + rest.length := by
    unfold Rs.left
    simp [beL_len, hm]
    omega
  have htk : (beL 2 m ++ (ys ++ rest)).take 2 = beL 2 m := by
    have := List.take_left (l₁ := beL 2 m) (l₂ := ys ++ rest)
    rwa [beL_len] at this
  unfold Rs.bytes
  rw [hl, if_neg (by omega)]
  dsimp only
  rw [htk, valL_beL 2 m (by omega), if_neg (by omega)]
  have h3 := raw_app (beL 2 m) (ys ++ rest)
  rw [beL_len] at h3
  rw [h3]
  dsimp only
  have h4 := raw_app ys rest
  rwa [hm] at h4
theorem flag_app (b : Bool) (rest : List Int) : (⟨[if b then 1 else 0] ++ rest, 0⟩ : Rs).flag = (b, ⟨rest, 0⟩) := by
  unfold Rs.flag Rs.num Rs.raw Rs.left
  cases b <;> simp [valL]
theorem step_app_c {c : Ch} (hk : c.k.xs.length = c.k.n) (hv : c.v.xs.length = c.v.n) (hok : chOk c = true) (rest : List Int) : prsStep ⟨chB c ++ rest, 0⟩ = (pcOf c, ⟨rest, 0⟩) := by
  obtain ⟨⟨kA, kn, kc, ks⟩, ⟨vA, vn, vc, vs⟩, d⟩ := c
  dsimp only at hk hv
  simp only [chOk, Bool.and_eq_true, decide_eq_true_eq, Bool.not_eq_true', Bool.and_eq_false_iff, decide_eq_false_iff_not] at hok
  obtain ⟨⟨⟨h1, h2⟩, h3⟩, h4⟩ := hok
  unfold prsStep chB pcOf
  dsimp only
  cases d
  · have e : [if !false then (1 : Int) else 0] ++ beL 2 kn ++ ks ++ (if false = true then [] else beL 2 vn ++ vs) ++ rest = [if !false then (1 : Int) else 0] ++ (beL 2 kn ++ (ks ++ (beL 2 vn ++ (vs ++ rest)))) := by simp
    rw [e, flag_app]
    dsimp only
    rw [bytes_app kn 16 ks _ hk h2 (by omega), bytes_app vn 16384 vs rest hv h3 (by omega)]
    rfl
  · have hvn : vn = 0 := by
      rcases h4 with h4 | h4
      · cases h4
      · omega
    have hvs : vs = [] := List.eq_nil_of_length_eq_zero (by rw [hv, hvn])
    have e : [if !true then (1 : Int) else 0] ++ beL 2 kn ++ ks ++ (if true = true then [] else beL 2 vn ++ vs) ++ rest = [if !true then (1 : Int) else 0] ++ (beL 2 kn ++ (ks ++ rest)) := by simp
    rw [e, flag_app]
    dsimp only
    rw [bytes_app kn 16 ks _ hk h2 (by omega), hvs]
    rfl
/-- The lengths of changes are those of their bytes. -/
def LenOk (L : List Ch) : Prop := ∀ c ∈ L, c.k.xs.length = c.k.n ∧ c.v.xs.length = c.v.n
theorem RTb.lens {w : World} {A : Option Addr} {n : Nat} {L : List Ch} (h : RTb w A n L) : LenOk L := fun c hc => ⟨(h.el c hc).k.len, (h.el c hc).v.len⟩
theorem prs_app (L : List Ch) (hl : LenOk L) (hok : ∀ c ∈ L, chOk c = true) (out : List PC) (rest : List Int) : prs L.length ⟨L.flatMap chB ++ rest, 0⟩ out = (out ++ L.map pcOf, ⟨rest, 0⟩) := by
  induction L generalizing out with
  | nil => simp [prs]
  | cons c L ih =>
    have hc := hl c (List.mem_cons_self ..)
    have hoc := hok c (List.mem_cons_self ..)
    rw [List.length_cons]
    unfold prs
    rw [List.flatMap_cons, List.append_assoc, step_app_c hc.1 hc.2 hoc]
    have hne : (pcOf c).k ≠ [] := by
      intro e
      have h1 : c.k.xs = [] := e
      have h2 := hc.1
      rw [h1] at h2
      simp only [chOk, Bool.and_eq_true, decide_eq_true_eq] at hoc
      simp at h2
      omega
    rw [if_neg hne]
    dsimp only
    rw [ih (fun c hc => hl c (List.mem_cons_of_mem _ hc)) (fun c hc => hok c (List.mem_cons_of_mem _ hc))]
    simp
theorem pcOk_len {c : Ch} (hk : c.k.xs.length = c.k.n) (hv : c.v.xs.length = c.v.n) : pcOk (pcOf c) = chOk c := by
  unfold pcOk chOk pcOf
  simp only [hk, hv]
theorem pcsOk_len {L : List Ch} (h : LenOk L) : pcsOk (L.map pcOf) = chsOk L := by
  unfold pcsOk chsOk
  have hlen : (L.map pcOf).length = L.length := by simp
  have e : (L.map pcOf).all pcOk = L.all chOk := by
    clear hlen
    induction L with
    | nil => rfl
    | cons c L ih => rw [List.map_cons, List.all_cons, List.all_cons, pcOk_len (h c (List.mem_cons_self ..)).1 (h c (List.mem_cons_self ..)).2, ih fun c hc => h c (List.mem_cons_of_mem _ hc)]
  rw [hlen, e]
theorem chsOk_all {L : List Ch} (h : chsOk L = true) : ∀ c ∈ L, chOk c = true := by
  unfold chsOk at h
  simp only [Bool.and_eq_true] at h
  exact List.all_eq_true.1 h.2
/-- What is put is read again. -/
theorem parse_put {L : List Ch} (hl : LenOk L) (hok : chsOk L = true) : parseB (putB L) = some (L.map pcOf) := by
  have hsp := chsOk_spec hok
  unfold parseB putB
  have h1 := num_app 2 L.length (L.flatMap chB) (by omega)
  rw [h1]
  dsimp only
  have h2 := prs_app L hl (chsOk_all hok) [] []
  rw [List.append_nil, List.nil_append] at h2
  rw [h2]
  dsimp only
  rw [if_pos ⟨rfl, by rw [pcsOk_len hl]; exact hok⟩]
/-- What hangs on the plain words alone. -/
theorem chB_pc {c d : Ch} (hc : c.k.xs.length = c.k.n ∧ c.v.xs.length = c.v.n) (hd : d.k.xs.length = d.k.n ∧ d.v.xs.length = d.v.n) (h : pcOf c = pcOf d) : chB c = chB d := by
  unfold pcOf at h
  injection h with h1 h2 h3
  unfold chB
  rw [← hc.1, ← hc.2, ← hd.1, ← hd.2, h1, h2, h3]
theorem putB_pc : ∀ {L M : List Ch}, LenOk L → LenOk M → L.map pcOf = M.map pcOf → putB L = putB M := by
  have key : ∀ {L M : List Ch}, LenOk L → LenOk M → L.map pcOf = M.map pcOf → L.flatMap chB = M.flatMap chB := by
    intro L
    induction L with
    | nil => intro M _ _ h; cases M with
      | nil => rfl
      | cons d M => simp at h
    | cons c L ih =>
      intro M hL hM h
      cases M with
      | nil => simp at h
      | cons d M =>
        rw [List.map_cons, List.map_cons] at h
        injection h with h1 h2
        rw [List.flatMap_cons, List.flatMap_cons, chB_pc (hL c (List.mem_cons_self ..)) (hM d (List.mem_cons_self ..)) h1, ih (fun c hc => hL c (List.mem_cons_of_mem _ hc)) (fun c hc => hM c (List.mem_cons_of_mem _ hc)) h2]
  intro L M hL hM h
  unfold putB
  have hl : L.length = M.length := by have := congrArg List.length h; simpa using this
  rw [hl, key hL hM h]
theorem doC_pc {T : CT} {c d : Ch} (h : pcOf c = pcOf d) : doC T c = doC T d := by
  unfold pcOf at h
  injection h with h1 h2 h3
  unfold doC
  rw [h1, h2, h3]
theorem doCs_pc : ∀ {L M : List Ch} {T : CT}, L.map pcOf = M.map pcOf → doCs T L = doCs T M := by
  intro L
  induction L with
  | nil => intro M T h; cases M with
    | nil => rfl
    | cons d M => simp at h
  | cons c L ih =>
    intro M T h
    cases M with
    | nil => simp at h
    | cons d M =>
      rw [List.map_cons, List.map_cons] at h
      injection h with h1 h2
      unfold doCs
      rw [List.foldl_cons, List.foldl_cons, doC_pc h1]
      exact ih h2
end Go.Proofs.Ytfhinmjpokollaa
/- The reference's octets: numbers as bytes and back. No condition but that what is read can be read. -/
namespace Go.Proofs.Ytfhinmjpokollaa
set_option linter.unusedVariables false
set_option linter.unusedSimpArgs false
set_option linter.constructorNameAsVariable false
open Go.RowKit Go.Maps

theorem infoB : (Try.prog.info? 5).map (fun i => (i.zero, i.size, i.bytes)) = some (some (.int .u8 0), 1, 1) := by kernel_rfl
theorem made_u8 (n : Nat) : (madeCells (Value.int .u8 0).cells (n * 1)).toList = u8s (List.replicate n 0) := by
  have hc : (Value.int .u8 0).cells = #[.int .u8 0] := rfl
  rw [hc]
  apply List.ext_getElem
  · simp [madeCells, u8s]
  · intro i h1 h2
    simp [madeCells, u8s, Nat.mod_one]
theorem made_zs {w w1 : World} {size n : Nat} {v : Value} (h : w1.ownsRow w.heap.size 5 1 v size (madeCells (Value.int .u8 0).cells (size * 1)).toList) : ∃ zs : List Int, zs.length = size ∧ zs.drop size = (beL size n).drop size ∧ w1.ownsRow w.heap.size 5 1 v size (u8s zs) := by
  rw [made_u8] at h
  exact ⟨List.replicate size 0, by simp, by rw [List.drop_eq_nil_of_le (by simp), List.drop_eq_nil_of_le (by rw [beL_len]; exact Nat.le_refl _)], h⟩
theorem byteAt_div (n i : Nat) : n / 256 ^ i % 256 = byteAt n i := rfl
set_option maxHeartbeats 2000000 in
set_option maxRecDepth 100000 in
theorem number_any (n size : Nat) (w : World) (hs : size ≤ 1000) (hn : n < 18446744073709551616) :
    Calls Try.prog 42 #[.int .u64 n, .int .i64 size] w fun e w' => e = .returned (.slice (some ⟨w.heap.size, 0, none⟩) size size) ∧ w'.ownsRow w.heap.size 5 1 (.slice (some ⟨w.heap.size, 0, none⟩) size size) size (u8s (beL size n)) ∧ New w w' := by
  obtain ⟨i0, hi, hz0, hz1, hz2⟩ := info_parts infoB
  go_enter Try.func42, Try.ntmps42
  go_wp2_with ((with_reducible refine atOpS ⟨some 8, .makeSlice _ _ _, _, _, _, _⟩ ?_); refine wpList_make_full _ rfl _ _ 39 rfl w.heap.size 5 i0 (.int .u8 0) 1 Try.underlying39 hi hz0 hz1 .i64 .i64 size size size rfl rfl rfl rfl (by rw [hz2]; omega) (by unfold maxLen; omega) (Nat.le_refl _) ?_; intro w1 hO1 hg1; have HO1 : Hid (∃ zs : List Int, zs.length = size ∧ zs.drop size = (beL size n).drop size ∧ w1.ownsRow w.heap.size 5 1 (.slice (some ⟨w.heap.size, 0, none⟩) size size) size (u8s zs)) := Lib.hid (made_zs hO1); have HN1 : Hid (New w w1) := Lib.hid ((New.refl w).fr ((Fr.refl NoB w).grown hg1 (fun _ _ h => by cases h)) (fun k h => h.elim)); clear hO1 hg1)
  clear hi hz0 hz1 hz2
  have HO0 : Hid (∃ zs : List Int, zs.length = size ∧ zs.drop size = (beL size n).drop size ∧ w1.ownsRow w.heap.size 5 1 (.slice (some ⟨w.heap.size, 0, none⟩) size size) size (u8s zs)) := HO1
  obtain ⟨B, hB⟩ : ∃ B, B = w.heap.size := ⟨_, rfl⟩
  rw [← hB] at HO0 ⊢
  have HB := Lib.hid hB
  clear hB HO1
  go_loopw [0, 6] (fun v i wr => ∃ j : Nat, j ≤ size ∧ i = .int .i64 ((j : Int) - 1) ∧ v = .int .u64 ((n / 256 ^ (size - j) : Nat) : Int) ∧ Hid (∃ zs : List Int, zs.length = size ∧ zs.drop j = (beL size n).drop j ∧ wr.ownsRow B 5 1 (.slice (some ⟨B, 0, none⟩) size size) size (u8s zs)) ∧ Hid (New w wr)) (fun v i _ => (intOf i + 1).toNat)
  case atStart => exact ⟨size, Nat.le_refl _, by simp, by simp, HO0, HN1⟩
  case round =>
    obtain ⟨j, hj, rfl, rfl, HO, HN⟩ := hrel
    rcases Nat.eq_zero_or_pos j with h0 | h0
    · subst h0
      go_wp2_with fail
      go_ret
      obtain ⟨zs, hz1, hz2, hO⟩ := HO.out
      rw [List.drop_zero, List.drop_zero] at hz2
      rw [hz2] at hO
      rw [← HB.out]
      exact ⟨rfl, hO, HN.out⟩
    · obtain ⟨k, rfl⟩ : ∃ k, j = k + 1 := ⟨j - 1, by omega⟩
      have hk : (((k + 1 : Nat) : Int) - 1) = (k : Int) := by omega
      rw [hk]
      obtain ⟨zs, hz1, hz2, hO⟩ := HO.out
      obtain ⟨v, hv⟩ : ∃ v, v = n / 256 ^ (size - (k + 1)) := ⟨_, rfl⟩
      rw [← hv]
      have hvb : v < 18446744073709551616 := by rw [hv]; exact Nat.lt_of_le_of_lt (Nat.div_le_self _ _) hn
      have hq : v / 256 = n / 256 ^ (size - k) := by
        rw [hv, Nat.div_div_eq_div_mul, ← Nat.pow_succ]
        congr 2
        omega
      have hm : v % 256 = byteAt n (size - 1 - k) := by
        rw [hv]
        unfold byteAt
        rw [show size - 1 - k = size - (k + 1) by omega]
      have hkz : k < zs.length := by omega
      have cj : wr.cell? ⟨B, k, none⟩ = some (.int .u8 zs[k]) := by
        rw [hO.cellAt k (by omega)]
        unfold u8s
        rw [List.getElem?_map, List.getElem?_eq_getElem hkz]
        rfl
      have fj : wr.frozen? ⟨B, k, none⟩ = false := hO.frozenAt k
      have hst := (hO.stored k (.int .u8 ((v % 256 : Nat) : Int))).1
      have hgr := (hO.stored k (.int .u8 ((v % 256 : Nat) : Int))).2
      generalize zs[k] = zk at cj
      have HST := Lib.hid hst
      have HGR := Lib.hid hgr
      have HZ1 := Lib.hid hz1
      have HZ2 := Lib.hid hz2
      have HQ := Lib.hid hq
      have HM := Lib.hid hm
      have hk0 : (0 : Int) ≤ (k : Int) := by omega
      have hks : (k : Int) < (size : Int) := by omega
      have hv0 : (0 : Int) ≤ (v : Int) := by omega
      have hvI : (v : Int) < 18446744073709551616 := by omega
      have hu8 := u8_wrap v
      clear hst hgr hz1 hz2 hq hm hv hO hk
      go_wp2_with fail
      have e256 : ((v : Int) % 256) = ((v % 256 : Nat) : Int) := by omega
      refine ⟨⟨k, by omega, rfl, ?_, Lib.hid ⟨zs.set k ((v % 256 : Nat) : Int), by rw [List.length_set]; exact HZ1.out, ?_, ?_⟩, Lib.hid ?_⟩, by simp [intOf]⟩
      · rw [← HQ.out]
        congr 1
      · have hl1 : k < (zs.set k ((v % 256 : Nat) : Int)).length := by rw [List.length_set]; exact hkz
        have hl2 : k < (beL size n).length := by rw [beL_len]; omega
        rw [List.drop_eq_getElem_cons hl1, List.drop_eq_getElem_cons hl2, List.getElem_set_self, beL_get, ← HM.out, List.drop_set_of_lt (by omega), HZ2.out]
      · rw [e256]
        have := HST.out
        unfold u8s at this ⊢
        rw [List.map_set]
        exact this
      · rw [e256]
        exact HN.out.fr ((Fr.refl (fun j => j = B) wr).setCell (p := ⟨B, k, none⟩) (fun _ => rfl) _) (fun j hj => by have := HB.out; omega)
set_option maxHeartbeats 2000000 in
theorem value_any {p : Nat → Prop} (A : Option Addr) (n c : Nat) (xs : List Int) (w : World) (hR : Rd p w 1 A n (u8s xs)) (hb : Byt xs) (hn : n ≤ 8) :
    Calls Try.prog 71 #[.slice A n c] w fun e w' => e = .returned (.int .u64 (valL xs)) ∧ w = w' := by
  have hx : xs.length = n := by have := hR.1; rw [u8s_len] at this; omega
  have HR := Lib.hid hR
  have HB := Lib.hid hb
  have HX := Lib.hid hx
  clear hR hb hx
  go_enter Try.func71, Try.ntmps71
  go_wp2_with fail
  go_loop [3, 4] (fun v i => ∃ j : Nat, j ≤ n ∧ i = .int .i64 j ∧ v = .int .u64 (valL (xs.take j))) (fun v i => n - (intOf i).toNat)
  case atStart => exact ⟨0, Nat.zero_le _, rfl, rfl⟩
  case round =>
    obtain ⟨j, hj, rfl, rfl⟩ := hrel
    by_cases hlt : j < n
    · obtain ⟨gA, o, rfl, -, -, hq⟩ := HR.out.out (by omega) (by omega)
      have hjl : j < xs.length := by rw [HX.out]; exact hlt
      have hcell : w.cell? ⟨gA, o + j, none⟩ = some (.int .u8 xs[j]) := hq j _ (by simp [u8s, hjl])
      have hst := valL_take hjl
      have hbx := HB.out xs[j] (List.getElem_mem _)
      have hv := valL_lt (xs := xs.take j) (fun x hx => HB.out x (List.mem_of_mem_take hx))
      rw [List.length_take, Nat.min_eq_left (by omega)] at hv
      have hv7 : valL (xs.take j) < 256 ^ 7 := Nat.lt_of_lt_of_le hv (Nat.pow_le_pow_right (by decide) (by omega))
      generalize xs[j] = x at hcell hst hbx
      generalize valL (xs.take j) = v at hst hv7 ⊢
      obtain ⟨y, rfl⟩ : ∃ y : Nat, x = (y : Int) := ⟨x.toNat, by omega⟩
      have HST := Lib.hid hst
      have hy : y < 256 := by omega
      have hj0 : (0 : Int) ≤ (j : Int) := by omega
      have hjm : (j : Int) < (n : Int) := by omega
      have hvv : (v : Int) < 72057594037927936 := by omega
      clear hst hq hv hbx hjl hv7
      go_wp2_with fail
      refine ⟨⟨j + 1, by omega, by go_num, ?_⟩, by simp [intOf]; omega⟩
      rw [HST.out]
      simp
    · obtain rfl : j = n := by omega
      go_wp2_with fail
      go_ret
      rw [List.take_of_length_le (by rw [HX.out]; exact Nat.le_refl _)]
      exact ⟨rfl, rfl⟩
end Go.Proofs.Ytfhinmjpokollaa
/- The reference's reader of octets: the same plain words as the program's. No condition but that what is read can be read. -/
namespace Go.Proofs.Ytfhinmjpokollaa
set_option linter.unusedVariables false
set_option linter.unusedSimpArgs false
set_option linter.constructorNameAsVariable false
open Go.RowKit Go.Maps

/-- A reader of the reference: its value, read in a world. -/
structure RIn (p : Nat → Prop) (w : World) (A : Option Addr) (n c : Nat) (s : Rs) : Prop where
  rd : Rd p w 1 A n (u8s s.xs)
  byt : Byt s.xs
  nc : n ≤ c
  cm : c ≤ 140737488355328
def rV (A : Option Addr) (n c : Nat) (e : Nat) : Value := .agg #[.slice A n c, .int .i64 e]
section
variable {p : Nat → Prop} {w w' : World} {A : Option Addr} {n c : Nat} {s : Rs}
theorem RIn.new (h : RIn p w A n c s) (hN : New w w') : RIn p w' A n c s := ⟨hN.rd h.rd, h.byt, h.nc, h.cm⟩
theorem RIn.len (h : RIn p w A n c s) : s.xs.length = n := by have := h.rd.1; rw [u8s_len] at this; omega
end
def BoxR (b : Nat) (x y : Value) (w : World) : Prop := w.cell? ⟨b, 0, none⟩ = some x ∧ w.cell? ⟨b, 1, none⟩ = some y
theorem BoxR.of {W : World} {b T : Nat} {x y : Value} (h : Blk W b T #[x, y]) : BoxR b x y W := ⟨h.cell 0, h.cell 1⟩
/-- What Take says. -/
def TakeSays (p : Nat → Prop) (r : List Int × Rs) (e : Ending) (w' : World) : Prop :=
  ∃ (A1 : Option Addr) (c1 : Nat) (A2 : Option Addr) (n2 c2 : Nat), e = .returned (.tuple #[.slice A1 r.1.length c1, rV A2 n2 c2 r.2.e]) ∧ Rd p w' 1 A1 r.1.length (u8s r.1) ∧ r.1.length ≤ c1 ∧ RIn p w' A2 n2 c2 r.2
theorem raw_err {s : Rs} (h : s.e ≠ 0) (k : Nat) : s.raw k = ([], s) ∨ (s.raw k).1 = [] ∧ (s.raw k).2 = ⟨s.xs.drop k, s.e⟩ := by
  have hl : s.left = 0 := by unfold Rs.left; rw [if_neg h]
  unfold Rs.raw
  rw [hl]
  by_cases hk : 0 < k
  · rw [if_pos hk]
    left
    unfold Rs.bad
    rw [if_neg h]
  · rw [if_neg hk]
    left
    have : k = 0 := by omega
    subst this
    simp
theorem raw_err' {s : Rs} (h : s.e ≠ 0) (k : Nat) : s.raw k = ([], s) := by
  have hl : s.left = 0 := by unfold Rs.left; rw [if_neg h]
  unfold Rs.raw
  rw [hl]
  by_cases hk : 0 < k
  · rw [if_pos hk]
    unfold Rs.bad
    rw [if_neg h]
  · rw [if_neg hk]
    have : k = 0 := by omega
    subst this
    simp
theorem rd_none {p : Nat → Prop} (w : World) : Rd p w 1 none 0 (u8s []) := Rd.nil
theorem rin_drop {p : Nat → Prop} {w : World} {A : Option Addr} {n c : Nat} {s : Rs} (h : RIn p w A n c s) {k : Nat} (hk : k ≤ n) (e : Nat) : RIn p w (if c = k then A else A.map (·.add k)) (n - k) (c - k) ⟨s.xs.drop k, e⟩ := by
  have hd := Rd.drop (cap := c) h.rd hk h.nc
  rw [Nat.mul_one] at hd
  have e3 : (u8s s.xs).drop k = u8s (s.xs.drop k) := by simp [u8s]
  rw [e3] at hd
  refine ⟨hd, fun x hx => h.byt x (List.mem_of_mem_drop hx), ?_, ?_⟩
  · have := h.nc; omega
  · have := h.cm; omega
set_option maxHeartbeats 4000000 in
theorem take_any {p : Nat → Prop} {w : World} {A : Option Addr} {n c : Nat} {s : Rs} (h : RIn p w A n c s) (k : Nat) (hk : k ≤ 1000000) :
    Calls Try.prog 70 #[rV A n c s.e, .int .i64 k] w fun e w' => TakeSays p (s.raw k) e w' ∧ New w w' := by
  have H := Lib.hid h
  have hn := h.len
  have HLN := Lib.hid hn
  have hcm := h.cm
  have hnc := h.nc
  unfold rV
  obtain ⟨r, hr⟩ : ∃ r, r = s.raw k := ⟨_, rfl⟩
  rw [← hr]
  have HR := Lib.hid hr
  obtain ⟨e0, he0⟩ : ∃ e0, e0 = s.e := ⟨_, rfl⟩
  rw [← he0]
  have HE := Lib.hid he0
  clear h hr he0 hn
  go_enter Try.func70, Try.ntmps70
  go_upto_region 1 with fail
  obtain ⟨w1, hw1⟩ : ∃ w1 : World, w1 = (w.alloc (.cells #[.slice A n c, .int .i64 e0] 98)).alloc (.cells #[.slice none 0 0, .int .i64 0] 98) := ⟨_, rfl⟩
  obtain ⟨b2, hb2⟩ : ∃ b2, b2 = w.heap.size := ⟨_, rfl⟩
  obtain ⟨b5, hb5⟩ : ∃ b5, b5 = w.heap.size + 1 := ⟨_, rfl⟩
  have HN1 : Hid (New w w1) := Lib.hid (by rw [hw1]; exact New.al (New.al (New.refl _) _) _)
  have HB2 : Hid (Blk w1 b2 98 #[.slice A n c, .int .i64 e0]) := Lib.hid (by rw [hw1, hb2]; exact (Blk.new _ _ _).alloc _)
  have HB5 : Hid (Blk w1 b5 98 #[.slice none 0 0, .int .i64 0]) := Lib.hid (by rw [hw1, hb5]; exact Blk.new' _ _ _ (by simp))
  have HZ : Hid (w.heap.size ≤ b2 ∧ w.heap.size ≤ b5) := Lib.hid ⟨by omega, by omega⟩
  have hne25 : b2 ≠ b5 := by omega
  rw [← hw1, ← hb5, ← hb2]
  clear hw1 hb2 hb5
  have c20 : w1.cell? ⟨b2, 0, none⟩ = some (.slice A n c) := HB2.out.cell 0
  have c21 : w1.cell? ⟨b2, 1, none⟩ = some (.int .i64 e0) := HB2.out.cell 1
  have c50 : w1.cell? ⟨b5, 0, none⟩ = some (.slice none 0 0) := HB5.out.cell 0
  have c51 : w1.cell? ⟨b5, 1, none⟩ = some (.int .i64 0) := HB5.out.cell 1
  have f50 : w1.frozen? ⟨b5, 0, none⟩ = false := HB5.out.frozen 0
  have f51 : w1.frozen? ⟨b5, 1, none⟩ = false := HB5.out.frozen 1
  have f20 : w1.frozen? ⟨b2, 0, none⟩ = false := HB2.out.frozen 0
  have f21 : w1.frozen? ⟨b2, 1, none⟩ = false := HB2.out.frozen 1
  have hne52 : ¬ b5 = b2 := fun e => hne25 e.symm
  by_cases h0 : e0 = 0
  · subst h0
    by_cases hkn : n < k
    · have hdn : decide (n < k) = true := decide_eq_true hkn
      have HRR : Hid (r = ([], ⟨s.xs, 2⟩)) := Lib.hid (by
        rw [HR.out]
        unfold Rs.raw Rs.left Rs.bad
        rw [if_pos HE.out.symm, if_pos HE.out.symm, HLN.out, if_pos hkn])
      go_upto_region 5 with fail
      obtain ⟨w2, hw2⟩ : ∃ w2 : World, w2 = w1.setCell ⟨b2, 1, none⟩ (.int .i64 2) := ⟨_, rfl⟩
      have hF2 : Fr (fun k => k = b2) w1 w2 := by rw [hw2]; exact (Fr.refl (fun k => k = b2) w1).setCell (p := ⟨b2, 1, none⟩) (fun _ => rfl) _
      have HB2W : Hid (Blk w2 b2 98 #[.slice A n c, .int .i64 2]) := Lib.hid (by
        have := HB2.out.set 1 (.int .i64 2)
        rw [hw2]
        simpa using this)
      have HB5W : Hid (Blk w2 b5 98 #[.slice none 0 0, .int .i64 0]) := Lib.hid (HB5.out.fr hF2 hne52)
      have HF2 := Lib.hid hF2
      rw [← hw2]
      clear hw2 hF2 c20 c21 c50 c51 f50 f51 f20 f21
      have c50 : w2.cell? ⟨b5, 0, none⟩ = some (.slice none 0 0) := HB5W.out.cell 0
      have c51 : w2.cell? ⟨b5, 1, none⟩ = some (.int .i64 0) := HB5W.out.cell 1
      have f50 : w2.frozen? ⟨b5, 0, none⟩ = false := HB5W.out.frozen 0
      have f51 : w2.frozen? ⟨b5, 1, none⟩ = false := HB5W.out.frozen 1
      have hS0 : BoxR b2 (.slice A n c) (.int .i64 2) w2.drew := BoxR.of HB2W.out
      refine wp_region_mixH (BoxR b2 (.slice A n c) (.int .i64 2)) [(true, 0), (true, 1), (false, 2)] (by kernel_rfl) (by kernel_rfl) hS0 (fun hne => ?_)
      have q0 : ∀ p : HW (BoxR b2 (.slice A n c) (.int .i64 2)), p.w.cell? ⟨b2, 0, none⟩ = some (.slice A n c) := fun p => p.h.1
      have q1 : ∀ p : HW (BoxR b2 (.slice A n c) (.int .i64 2)), p.w.cell? ⟨b2, 1, none⟩ = some (.int .i64 2) := fun p => p.h.2
      iterate 2 (refine mix_take (o := ⟨_, _, _, _, _, _⟩) rfl (fun K hK => ?_); go_simp; refine hK _ ?_; clear hK K)
      refine mix_act (o := ⟨_, _, _, _, _, _⟩) rfl (fun K hK => ?_) (.inl rfl)
      go_simp
      obtain ⟨w3, hw3⟩ : ∃ w3 : World, w3 = ((w2.setCell ⟨b5, 0, none⟩ (.slice A n c)).setCell ⟨b5, 1, none⟩ (.int .i64 2)).drew := ⟨_, rfl⟩
      have hF3 : Fr (fun k => k = b5) w2 w3 := by rw [hw3]; exact (((Fr.refl (fun k => k = b5) w2).setCell (p := ⟨b5, 0, none⟩) (fun _ => rfl) _).setCell (p := ⟨b5, 1, none⟩) (fun _ => rfl) _).drew
      have hB3 : Blk w3 b5 98 #[(.slice A n c), (.int .i64 2)] := by rw [hw3]; exact blk_set2 HB5W.out (.slice A n c) (.int .i64 2)
      rw [← hw3]
      refine hK.out _ _ (fun _ => BoxR.of (HB2W.out.fr hF3 hne25)) ?_
      clear hK K q0 q1
      refine mix_done ?_
      have r0 : w3.cell? ⟨b5, 0, none⟩ = some (.slice A n c) := hB3.cell 0
      have r1 : w3.cell? ⟨b5, 1, none⟩ = some (.int .i64 2) := hB3.cell 1
      have HF3 := Lib.hid hF3
      clear hw3 hF3 hB3 hS0
      go_wp2_with fail
      have HNF : Hid (New w w3) := Lib.hid ((HN1.out.fr HF2.out (fun k hk => by have := HZ.out; omega)).fr HF3.out (fun k hk => by have := HZ.out; omega))
      refine bodyPost_ret (v := .tuple #[.slice none 0 0, .agg #[.slice A n c, .int .i64 2]]) (by simp [results, Try.results70, go_sem, r0, r1]) rfl ⟨?_, HNF.out⟩
      rw [HRR.out]
      exact ⟨none, 0, A, n, c, rfl, rd_none _, Nat.le_refl _, ⟨HNF.out.rd H.out.rd, H.out.byt, H.out.nc, H.out.cm⟩⟩
    · have hdn : decide (n < k) = false := decide_eq_false hkn
      have HKN : Hid (k ≤ n) := Lib.hid (by omega)
      have hkc : k ≤ c := by omega
      go_upto_region 8 with fail
      have hri := rin_drop H.out HKN.out 0
      generalize (if c = k then A else Option.map (fun x => x.add k) A) = A2 at hri ⊢
      have HRI := Lib.hid hri
      have HRR : Hid (r = (s.xs.take k, ⟨s.xs.drop k, 0⟩)) := Lib.hid (by
        rw [HR.out]
        unfold Rs.raw Rs.left
        rw [if_pos HE.out.symm, HLN.out, if_neg hkn, ← HE.out])
      have HTK : Hid ((s.xs.take k).length = k) := Lib.hid (by rw [List.length_take, HLN.out]; omega)
      obtain ⟨w2, hw2⟩ : ∃ w2 : World, w2 = w1.setCell ⟨b2, 0, none⟩ (.slice A2 (n - k) (c - k)) := ⟨_, rfl⟩
      have hF2 : Fr (fun k => k = b2) w1 w2 := by rw [hw2]; exact (Fr.refl (fun k => k = b2) w1).setCell (p := ⟨b2, 0, none⟩) (fun _ => rfl) _
      have HB2W : Hid (Blk w2 b2 98 #[.slice A2 (n - k) (c - k), .int .i64 0]) := Lib.hid (by
        have := HB2.out.set 0 (.slice A2 (n - k) (c - k))
        rw [hw2]
        simpa using this)
      have HB5W : Hid (Blk w2 b5 98 #[.slice none 0 0, .int .i64 0]) := Lib.hid (HB5.out.fr hF2 hne52)
      have HF2 := Lib.hid hF2
      rw [← hw2]
      clear hw2 hF2 c20 c21 c50 c51 f50 f51 f20 f21 hri
      have c50 : w2.cell? ⟨b5, 0, none⟩ = some (.slice none 0 0) := HB5W.out.cell 0
      have c51 : w2.cell? ⟨b5, 1, none⟩ = some (.int .i64 0) := HB5W.out.cell 1
      have f50 : w2.frozen? ⟨b5, 0, none⟩ = false := HB5W.out.frozen 0
      have f51 : w2.frozen? ⟨b5, 1, none⟩ = false := HB5W.out.frozen 1
      have hS0 : BoxR b2 (.slice A2 (n - k) (c - k)) (.int .i64 0) w2.drew := BoxR.of HB2W.out
      refine wp_region_mixH (BoxR b2 (.slice A2 (n - k) (c - k)) (.int .i64 0)) [(true, 0), (true, 1), (true, 2), (false, 3)] (by kernel_rfl) (by kernel_rfl) hS0 (fun hne => ?_)
      have q0 : ∀ p : HW (BoxR b2 (.slice A2 (n - k) (c - k)) (.int .i64 0)), p.w.cell? ⟨b2, 0, none⟩ = some (.slice A2 (n - k) (c - k)) := fun p => p.h.1
      have q1 : ∀ p : HW (BoxR b2 (.slice A2 (n - k) (c - k)) (.int .i64 0)), p.w.cell? ⟨b2, 1, none⟩ = some (.int .i64 0) := fun p => p.h.2
      iterate 3 (refine mix_take (o := ⟨_, _, _, _, _, _⟩) rfl (fun K hK => ?_); go_simp; refine hK _ ?_; clear hK K)
      refine mix_act (o := ⟨_, _, _, _, _, _⟩) rfl (fun K hK => ?_) (.inl rfl)
      go_simp
      obtain ⟨w3, hw3⟩ : ∃ w3 : World, w3 = ((w2.setCell ⟨b5, 0, none⟩ (.slice A2 (n - k) (c - k))).setCell ⟨b5, 1, none⟩ (.int .i64 0)).drew := ⟨_, rfl⟩
      have hF3 : Fr (fun k => k = b5) w2 w3 := by rw [hw3]; exact (((Fr.refl (fun k => k = b5) w2).setCell (p := ⟨b5, 0, none⟩) (fun _ => rfl) _).setCell (p := ⟨b5, 1, none⟩) (fun _ => rfl) _).drew
      have hB3 : Blk w3 b5 98 #[(.slice A2 (n - k) (c - k)), (.int .i64 0)] := by rw [hw3]; exact blk_set2 HB5W.out (.slice A2 (n - k) (c - k)) (.int .i64 0)
      rw [← hw3]
      refine hK.out _ _ (fun _ => BoxR.of (HB2W.out.fr hF3 hne25)) ?_
      clear hK K q0 q1
      refine mix_done ?_
      have r0 : w3.cell? ⟨b5, 0, none⟩ = some (.slice A2 (n - k) (c - k)) := hB3.cell 0
      have r1 : w3.cell? ⟨b5, 1, none⟩ = some (.int .i64 0) := hB3.cell 1
      have HF3 := Lib.hid hF3
      clear hw3 hF3 hB3 hS0
      go_wp2_with fail
      have HNF : Hid (New w w3) := Lib.hid ((HN1.out.fr HF2.out (fun k hk => by have := HZ.out; omega)).fr HF3.out (fun k hk => by have := HZ.out; omega))
      refine bodyPost_ret (v := .tuple #[.slice A k c, .agg #[.slice A2 (n - k) (c - k), .int .i64 0]]) (by simp [results, Try.results70, go_sem, r0, r1]) rfl ⟨?_, HNF.out⟩
      rw [HRR.out]
      exact ⟨A, c, A2, n - k, c - k, by dsimp only; rw [HTK.out]; rfl, by dsimp only; rw [HTK.out]; exact HNF.out.rd (Rd.take H.out.rd HKN.out), by dsimp only; rw [HTK.out]; exact hkc, HRI.out.new HNF.out⟩
  · have hz : ((e0 : Int) != 0) = true := by simp; omega
    have hz2 : ((e0 : Int) == 0) = false := by simp; omega
    have hd0 : decide ((e0 : Int) = 0) = false := decide_eq_false (by omega)
    have HB2W := HB2
    have HB5W := HB5
    have HRR : Hid (r = ([], s)) := Lib.hid (by rw [HR.out]; exact raw_err' (by rw [← HE.out]; exact h0) k)
    go_wp2_with fail
    have hS0 : BoxR b2 (.slice A n c) (.int .i64 e0) w1.drew := BoxR.of HB2W.out
    refine wp_region_mixH (BoxR b2 (.slice A n c) (.int .i64 e0)) [(true, 0), (true, 1), (false, 2)] (by kernel_rfl) (by kernel_rfl) hS0 (fun hne => ?_)
    have q0 : ∀ p : HW (BoxR b2 (.slice A n c) (.int .i64 e0)), p.w.cell? ⟨b2, 0, none⟩ = some (.slice A n c) := fun p => p.h.1
    have q1 : ∀ p : HW (BoxR b2 (.slice A n c) (.int .i64 e0)), p.w.cell? ⟨b2, 1, none⟩ = some (.int .i64 e0) := fun p => p.h.2
    iterate 2 (refine mix_take (o := ⟨_, _, _, _, _, _⟩) rfl (fun K hK => ?_); go_simp; refine hK _ ?_; clear hK K)
    refine mix_act (o := ⟨_, _, _, _, _, _⟩) rfl (fun K hK => ?_) (.inl rfl)
    go_simp
    obtain ⟨w3, hw3⟩ : ∃ w3 : World, w3 = ((w1.setCell ⟨b5, 0, none⟩ (.slice A n c)).setCell ⟨b5, 1, none⟩ (.int .i64 e0)).drew := ⟨_, rfl⟩
    have hF3 : Fr (fun k => k = b5) w1 w3 := by rw [hw3]; exact (((Fr.refl (fun k => k = b5) w1).setCell (p := ⟨b5, 0, none⟩) (fun _ => rfl) _).setCell (p := ⟨b5, 1, none⟩) (fun _ => rfl) _).drew
    have hB3 : Blk w3 b5 98 #[(.slice A n c), (.int .i64 e0)] := by rw [hw3]; exact blk_set2 HB5W.out (.slice A n c) (.int .i64 e0)
    rw [← hw3]
    refine hK.out _ _ (fun _ => BoxR.of (HB2W.out.fr hF3 hne25)) ?_
    clear hK K q0 q1
    refine mix_done ?_
    have r0 : w3.cell? ⟨b5, 0, none⟩ = some (.slice A n c) := hB3.cell 0
    have r1 : w3.cell? ⟨b5, 1, none⟩ = some (.int .i64 e0) := hB3.cell 1
    have HF3 := Lib.hid hF3
    clear hw3 hF3 hB3 hS0
    go_wp2_with fail
    have HNF : Hid (New w w3) := Lib.hid (HN1.out.fr HF3.out (fun k hk => by have := HZ.out; omega))
    refine bodyPost_ret (v := .tuple #[.slice none 0 0, .agg #[.slice A n c, .int .i64 e0]]) (by simp [results, Try.results70, go_sem, r0, r1]) rfl ⟨?_, HNF.out⟩
    rw [HRR.out]
    exact ⟨none, 0, A, n, c, by rw [HE.out]; rfl, rd_none _, Nat.le_refl _, H.out.new HNF.out⟩
/-- What Read says. -/
def ReadSays (p : Nat → Prop) (r : Nat × Rs) (e : Ending) (w' : World) : Prop :=
  ∃ (A2 : Option Addr) (n2 c2 : Nat), e = .returned (.tuple #[.int .u64 r.1, rV A2 n2 c2 r.2.e]) ∧ RIn p w' A2 n2 c2 r.2
theorem num_err {s : Rs} (h : s.e ≠ 0) (k : Nat) : s.num k = (0, s) := by
  unfold Rs.num
  rw [raw_err' h]
  rfl
set_option maxHeartbeats 4000000 in
theorem read_any {p : Nat → Prop} {w : World} {A : Option Addr} {n c : Nat} {s : Rs} (h : RIn p w A n c s) (size : Nat) (hs : size = 1 ∨ size = 2 ∨ size = 4 ∨ size = 8) (hp : ∀ k, p k → k < w.heap.size) :
    Calls Try.prog 56 #[rV A n c s.e, .int .i64 size] w fun e w' => ReadSays p (s.num size) e w' ∧ New w w' := by
  have H := Lib.hid h
  have hn := h.len
  have HLN := Lib.hid hn
  have hcm := h.cm
  have hnc := h.nc
  unfold rV
  obtain ⟨r, hr⟩ : ∃ r, r = s.num size := ⟨_, rfl⟩
  rw [← hr]
  have HR := Lib.hid hr
  obtain ⟨e0, he0⟩ : ∃ e0, e0 = s.e := ⟨_, rfl⟩
  rw [← he0]
  have HE := Lib.hid he0
  have HP := Lib.hid hp
  clear hp
  clear h hr he0 hn
  go_enter Try.func56, Try.ntmps56
  go_upto_region 1 with fail
  obtain ⟨w1, hw1⟩ : ∃ w1 : World, w1 = (w.alloc (.cells #[.slice A n c, .int .i64 e0] 98)).alloc (.cells #[.slice none 0 0, .int .i64 0] 98) := ⟨_, rfl⟩
  obtain ⟨b2, hb2⟩ : ∃ b2, b2 = w.heap.size := ⟨_, rfl⟩
  obtain ⟨b5, hb5⟩ : ∃ b5, b5 = w.heap.size + 1 := ⟨_, rfl⟩
  have HN1 : Hid (New w w1) := Lib.hid (by rw [hw1]; exact New.al (New.al (New.refl _) _) _)
  have HB2 : Hid (Blk w1 b2 98 #[.slice A n c, .int .i64 e0]) := Lib.hid (by rw [hw1, hb2]; exact (Blk.new _ _ _).alloc _)
  have HB5 : Hid (Blk w1 b5 98 #[.slice none 0 0, .int .i64 0]) := Lib.hid (by rw [hw1, hb5]; exact Blk.new' _ _ _ (by simp))
  have HZ : Hid (w.heap.size ≤ b2 ∧ w.heap.size ≤ b5) := Lib.hid ⟨by omega, by omega⟩
  have hne25 : b2 ≠ b5 := by omega
  rw [← hw1, ← hb5, ← hb2]
  clear hw1 hb2 hb5
  have c20 : w1.cell? ⟨b2, 0, none⟩ = some (.slice A n c) := HB2.out.cell 0
  have c21 : w1.cell? ⟨b2, 1, none⟩ = some (.int .i64 e0) := HB2.out.cell 1
  have c50 : w1.cell? ⟨b5, 0, none⟩ = some (.slice none 0 0) := HB5.out.cell 0
  have c51 : w1.cell? ⟨b5, 1, none⟩ = some (.int .i64 0) := HB5.out.cell 1
  have f50 : w1.frozen? ⟨b5, 0, none⟩ = false := HB5.out.frozen 0
  have f51 : w1.frozen? ⟨b5, 1, none⟩ = false := HB5.out.frozen 1
  have f20 : w1.frozen? ⟨b2, 0, none⟩ = false := HB2.out.frozen 0
  have f21 : w1.frozen? ⟨b2, 1, none⟩ = false := HB2.out.frozen 1
  have hne52 : ¬ b5 = b2 := fun e => hne25 e.symm
  by_cases h0 : e0 = 0
  · have HT := Lib.hid (take_any (H.out.new HN1.out) size (by omega))
    obtain ⟨q, hq⟩ : ∃ q, q = s.raw size := ⟨_, rfl⟩
    rw [← HE.out] at HT
    rw [← hq] at HT
    unfold rV at HT
    have HRR : Hid (r = (valL q.1, q.2)) := Lib.hid (by rw [HR.out]; unfold Rs.num; rw [← hq])
    have hql : q.1.length ≤ 8 := by rw [hq]; have := raw_le s size; omega
    have HQB : Hid (Byt q.1) := Lib.hid (by rw [hq]; exact raw_byt H.out.byt size)
    have hsz : (size == 1 || size == 2 || size == 4 || size == 8) = true := by rcases hs with rfl | rfl | rfl | rfl <;> rfl
    clear hq
    subst h0
    rcases hs with rfl | rfl | rfl | rfl
    all_goals
      go_wp2_with fail
      refine HT.out.mono ?_
      rintro e w2 ⟨⟨A1, c1, A2, n2, c2, rfl, hr1, hnc1, hri⟩, hN2⟩
      have HR1 := Lib.hid hr1
      have HRI := Lib.hid hri
      have HN2 := Lib.hid hN2
      have HB22 := Lib.hid (hN2.blk HB2.out)
      have HB52 := Lib.hid (hN2.blk HB5.out)
      obtain ⟨q1, hq1⟩ : ∃ q1, q1 = q.1 := ⟨_, rfl⟩
      obtain ⟨q2, hq2⟩ : ∃ q2, q2 = q.2 := ⟨_, rfl⟩
      rw [← hq1, ← hq2] at HRR
      rw [← hq1] at HR1 HQB hql hnc1
      rw [← hq2] at HRI
      rw [← hq1, ← hq2]
      obtain ⟨m1, hm1⟩ : ∃ m1, m1 = q1.length := ⟨_, rfl⟩
      obtain ⟨e2, he2⟩ : ∃ e2, e2 = q2.e := ⟨_, rfl⟩
      rw [← hm1] at hql hnc1 HR1 ⊢
      rw [← he2]
      have HE2 := Lib.hid he2
      clear hr1 hri hN2 hq1 hq2 hm1 he2 c20 c21 c50 c51 f50 f51 f20 f21 HT HB2 HB5
      unfold rV
      have c20 : w2.cell? ⟨b2, 0, none⟩ = some (.slice A n c) := HB22.out.cell 0
      have c21 : w2.cell? ⟨b2, 1, none⟩ = some (.int .i64 0) := HB22.out.cell 1
      have f20 : w2.frozen? ⟨b2, 0, none⟩ = false := HB22.out.frozen 0
      have f21 : w2.frozen? ⟨b2, 1, none⟩ = false := HB22.out.frozen 1
      go_upto_region 7 with fail
      obtain ⟨w4, hw4⟩ : ∃ w4 : World, w4 = (w2.setCell ⟨b2, 0, none⟩ (.slice A2 n2 c2)).setCell ⟨b2, 1, none⟩ (.int .i64 e2) := ⟨_, rfl⟩
      have hF4 : Fr (fun k => k = b2) w2 w4 := by rw [hw4]; exact ((Fr.refl (fun k => k = b2) w2).setCell (p := ⟨b2, 0, none⟩) (fun _ => rfl) _).setCell (p := ⟨b2, 1, none⟩) (fun _ => rfl) _
      have HB2W : Hid (Blk w4 b2 98 #[.slice A2 n2 c2, .int .i64 e2]) := Lib.hid (by rw [hw4]; exact blk_set2 HB22.out _ _)
      have HB5W : Hid (Blk w4 b5 98 #[.slice none 0 0, .int .i64 0]) := Lib.hid (HB52.out.fr hF4 hne52)
      have HN4 : Hid (New w w4) := Lib.hid ((HN1.out.tr HN2.out).fr hF4 (fun k hk => by have := HZ.out; omega))
      rw [← hw4]
      clear hw4 c20 c21 f20 f21
      have hpb : ∀ k, p k → ¬ k = b2 := fun k hk e => by have := HP.out k hk; have := HZ.out; omega
      have HR4 : Hid (Rd p w4 1 A1 m1 (u8s q1)) := Lib.hid (HR1.out.fr hF4 hpb)
      have HRI4 : Hid (RIn p w4 A2 n2 c2 q2) := Lib.hid ⟨HRI.out.rd.fr hF4 hpb, HRI.out.byt, HRI.out.nc, HRI.out.cm⟩
      have HVA := Lib.hid (value_any A1 m1 c1 q1 w4.drew HR4.out HQB.out hql)
      have c50 : w4.cell? ⟨b5, 0, none⟩ = some (.slice none 0 0) := HB5W.out.cell 0
      have c51 : w4.cell? ⟨b5, 1, none⟩ = some (.int .i64 0) := HB5W.out.cell 1
      have f50 : w4.frozen? ⟨b5, 0, none⟩ = false := HB5W.out.frozen 0
      have f51 : w4.frozen? ⟨b5, 1, none⟩ = false := HB5W.out.frozen 1
      clear hF4 hpb
      have hS0 : BoxR b2 (.slice A2 n2 c2) (.int .i64 e2) w4.drew := BoxR.of HB2W.out
      refine wp_region_mixH (BoxR b2 (.slice A2 n2 c2) (.int .i64 e2)) [(true, 0), (true, 2), (false, 1), (true, 3), (false, 4)] (by kernel_rfl) (by kernel_rfl) hS0 (fun hne => ?_)
      have q0 : ∀ p : HW (BoxR b2 (.slice A2 n2 c2) (.int .i64 e2)), p.w.cell? ⟨b2, 0, none⟩ = some (.slice A2 n2 c2) := fun p => p.h.1
      have q1' : ∀ p : HW (BoxR b2 (.slice A2 n2 c2) (.int .i64 e2)), p.w.cell? ⟨b2, 1, none⟩ = some (.int .i64 e2) := fun p => p.h.2
      iterate 2 (refine mix_take (o := ⟨_, _, _, _, _, _⟩) rfl (fun K hK => ?_); go_simp; refine hK _ ?_; clear hK K)
      refine mix_act (o := ⟨_, _, _, _, _, _⟩) rfl (fun K hK => ?_) (.inl rfl)
      go_simp
      refine HVA.out.mono ?_
      rintro e w5 ⟨rfl, rfl⟩
      refine hK.out _ _ (fun _ => BoxR.of HB2W.out) ?_
      clear hK K
      refine mix_take (o := ⟨_, _, _, _, _, _⟩) rfl (fun K hK => ?_)
      go_simp
      refine hK _ ?_
      clear hK K
      refine mix_act (o := ⟨_, _, _, _, _, _⟩) rfl (fun K hK => ?_) (.inl rfl)
      go_simp
      obtain ⟨w3, hw3⟩ : ∃ w3 : World, w3 = ((w4.setCell ⟨b5, 0, none⟩ (.slice A2 n2 c2)).setCell ⟨b5, 1, none⟩ (.int .i64 e2)).drew := ⟨_, rfl⟩
      have hF3 : Fr (fun k => k = b5) w4 w3 := by rw [hw3]; exact (((Fr.refl (fun k => k = b5) w4).setCell (p := ⟨b5, 0, none⟩) (fun _ => rfl) _).setCell (p := ⟨b5, 1, none⟩) (fun _ => rfl) _).drew
      have hB3 : Blk w3 b5 98 #[.slice A2 n2 c2, .int .i64 e2] := by rw [hw3]; exact blk_set2 HB5W.out _ _
      rw [← hw3]
      refine hK.out _ _ (fun _ => BoxR.of (HB2W.out.fr hF3 hne25)) ?_
      clear hK K q0 q1'
      refine mix_done ?_
      have r0 : w3.cell? ⟨b5, 0, none⟩ = some (.slice A2 n2 c2) := hB3.cell 0
      have r1 : w3.cell? ⟨b5, 1, none⟩ = some (.int .i64 e2) := hB3.cell 1
      have HNF : Hid (New w w3) := Lib.hid (HN4.out.fr hF3 (fun k hk => by have := HZ.out; omega))
      have HRF : Hid (RIn p w3 A2 n2 c2 q2) := Lib.hid (by
        have hpb : ∀ k, p k → ¬ k = b5 := fun k hk e => by have := HP.out k hk; have := HZ.out; omega
        exact ⟨HRI4.out.rd.fr hF3 hpb, HRI4.out.byt, HRI4.out.nc, HRI4.out.cm⟩)
      clear hw3 hF3 hB3 hS0
      go_wp2_with fail
      refine bodyPost_ret (v := .tuple #[.int .u64 (valL q1), .agg #[.slice A2 n2 c2, .int .i64 e2]]) (by simp [results, Try.results56, go_sem, r0, r1]) rfl ⟨?_, HNF.out⟩
      rw [HRR.out]
      exact ⟨A2, n2, c2, by rw [HE2.out]; rfl, HRF.out⟩
  · have hz : ((e0 : Int) != 0) = true := by simp; omega
    have hz2 : ((e0 : Int) == 0) = false := by simp; omega
    have hd0 : decide ((e0 : Int) = 0) = false := decide_eq_false (by omega)
    have HB2W := HB2
    have HB5W := HB5
    have HRR : Hid (r = (0, s)) := Lib.hid (by rw [HR.out]; exact num_err (by rw [← HE.out]; exact h0) size)
    clear hs
    go_wp2_with fail
    have hS0 : BoxR b2 (.slice A n c) (.int .i64 e0) w1.drew := BoxR.of HB2W.out
    refine wp_region_mixH (BoxR b2 (.slice A n c) (.int .i64 e0)) [(true, 0), (true, 1), (false, 2)] (by kernel_rfl) (by kernel_rfl) hS0 (fun hne => ?_)
    have q0 : ∀ p : HW (BoxR b2 (.slice A n c) (.int .i64 e0)), p.w.cell? ⟨b2, 0, none⟩ = some (.slice A n c) := fun p => p.h.1
    have q1 : ∀ p : HW (BoxR b2 (.slice A n c) (.int .i64 e0)), p.w.cell? ⟨b2, 1, none⟩ = some (.int .i64 e0) := fun p => p.h.2
    iterate 2 (refine mix_take (o := ⟨_, _, _, _, _, _⟩) rfl (fun K hK => ?_); go_simp; refine hK _ ?_; clear hK K)
    refine mix_act (o := ⟨_, _, _, _, _, _⟩) rfl (fun K hK => ?_) (.inl rfl)
    go_simp
    obtain ⟨w3, hw3⟩ : ∃ w3 : World, w3 = ((w1.setCell ⟨b5, 0, none⟩ (.slice A n c)).setCell ⟨b5, 1, none⟩ (.int .i64 e0)).drew := ⟨_, rfl⟩
    have hF3 : Fr (fun k => k = b5) w1 w3 := by rw [hw3]; exact (((Fr.refl (fun k => k = b5) w1).setCell (p := ⟨b5, 0, none⟩) (fun _ => rfl) _).setCell (p := ⟨b5, 1, none⟩) (fun _ => rfl) _).drew
    have hB3 : Blk w3 b5 98 #[(.slice A n c), (.int .i64 e0)] := by rw [hw3]; exact blk_set2 HB5W.out (.slice A n c) (.int .i64 e0)
    rw [← hw3]
    refine hK.out _ _ (fun _ => BoxR.of (HB2W.out.fr hF3 hne25)) ?_
    clear hK K q0 q1
    refine mix_done ?_
    have r0 : w3.cell? ⟨b5, 0, none⟩ = some (.slice A n c) := hB3.cell 0
    have r1 : w3.cell? ⟨b5, 1, none⟩ = some (.int .i64 e0) := hB3.cell 1
    have HF3 := Lib.hid hF3
    clear hw3 hF3 hB3 hS0
    go_wp2_with fail
    have HNF : Hid (New w w3) := Lib.hid (HN1.out.fr HF3.out (fun k hk => by have := HZ.out; omega))
    refine bodyPost_ret (v := .tuple #[.int .u64 0, .agg #[.slice A n c, .int .i64 e0]]) (by simp [results, Try.results56, go_sem, r0, r1]) rfl ⟨?_, HNF.out⟩
    rw [HRR.out]
    exact ⟨A, n, c, by rw [HE.out]; rfl, H.out.new HNF.out⟩
/-- What Bool says. -/
def BoolSays (p : Nat → Prop) (r : Bool × Rs) (e : Ending) (w' : World) : Prop :=
  ∃ (A2 : Option Addr) (n2 c2 : Nat), e = .returned (.tuple #[.bool r.1, rV A2 n2 c2 r.2.e]) ∧ RIn p w' A2 n2 c2 r.2
theorem flag_err {s : Rs} (h : s.e ≠ 0) : s.flag = (false, s) := by
  have hl : s.left = 0 := by unfold Rs.left; rw [if_neg h]
  unfold Rs.flag
  rw [hl, if_pos (.inl (by omega))]
  unfold Rs.bad
  rw [if_neg h]
def BoxRx (b : Nat) (x y : Value) (g o : Nat) (z : Value) (w : World) : Prop := w.cell? ⟨b, 0, none⟩ = some x ∧ w.cell? ⟨b, 1, none⟩ = some y ∧ w.cell? ⟨g, o, none⟩ = some z
set_option maxHeartbeats 4000000 in
theorem bool_any {p : Nat → Prop} {w : World} {A : Option Addr} {n c : Nat} {s : Rs} (h : RIn p w A n c s) (hp : ∀ k, p k → k < w.heap.size) :
    Calls Try.prog 57 #[rV A n c s.e] w fun e w' => BoolSays p s.flag e w' ∧ New w w' := by
  have H := Lib.hid h
  have hn := h.len
  have HLN := Lib.hid hn
  have hcm := h.cm
  have hnc := h.nc
  unfold rV
  obtain ⟨r, hr⟩ : ∃ r, r = s.flag := ⟨_, rfl⟩
  rw [← hr]
  have HR := Lib.hid hr
  obtain ⟨e0, he0⟩ : ∃ e0, e0 = s.e := ⟨_, rfl⟩
  rw [← he0]
  have HE := Lib.hid he0
  have HP := Lib.hid hp
  clear hp
  clear h hr he0 hn
  go_enter Try.func57, Try.ntmps57
  go_upto_region 1 with fail
  obtain ⟨w1, hw1⟩ : ∃ w1 : World, w1 = (w.alloc (.cells #[.slice A n c, .int .i64 e0] 98)).alloc (.cells #[.slice none 0 0, .int .i64 0] 98) := ⟨_, rfl⟩
  obtain ⟨b2, hb2⟩ : ∃ b2, b2 = w.heap.size := ⟨_, rfl⟩
  obtain ⟨b5, hb5⟩ : ∃ b5, b5 = w.heap.size + 1 := ⟨_, rfl⟩
  have HN1 : Hid (New w w1) := Lib.hid (by rw [hw1]; exact New.al (New.al (New.refl _) _) _)
  have HB2 : Hid (Blk w1 b2 98 #[.slice A n c, .int .i64 e0]) := Lib.hid (by rw [hw1, hb2]; exact (Blk.new _ _ _).alloc _)
  have HB5 : Hid (Blk w1 b5 98 #[.slice none 0 0, .int .i64 0]) := Lib.hid (by rw [hw1, hb5]; exact Blk.new' _ _ _ (by simp))
  have HZ : Hid (w.heap.size ≤ b2 ∧ w.heap.size ≤ b5) := Lib.hid ⟨by omega, by omega⟩
  have hne25 : b2 ≠ b5 := by omega
  rw [← hw1, ← hb5, ← hb2]
  clear hw1 hb2 hb5
  have c20 : w1.cell? ⟨b2, 0, none⟩ = some (.slice A n c) := HB2.out.cell 0
  have c21 : w1.cell? ⟨b2, 1, none⟩ = some (.int .i64 e0) := HB2.out.cell 1
  have c50 : w1.cell? ⟨b5, 0, none⟩ = some (.slice none 0 0) := HB5.out.cell 0
  have c51 : w1.cell? ⟨b5, 1, none⟩ = some (.int .i64 0) := HB5.out.cell 1
  have f50 : w1.frozen? ⟨b5, 0, none⟩ = false := HB5.out.frozen 0
  have f51 : w1.frozen? ⟨b5, 1, none⟩ = false := HB5.out.frozen 1
  have f20 : w1.frozen? ⟨b2, 0, none⟩ = false := HB2.out.frozen 0
  have f21 : w1.frozen? ⟨b2, 1, none⟩ = false := HB2.out.frozen 1
  have hne52 : ¬ b5 = b2 := fun e => hne25 e.symm
  by_cases h0 : e0 = 0
  · subst h0
    by_cases hn0 : n = 0
    · subst hn0
      have HRR : Hid (r = (false, ⟨s.xs, 2⟩)) := Lib.hid (by
        rw [HR.out]
        unfold Rs.flag Rs.left Rs.bad
        rw [if_pos HE.out.symm, HLN.out, if_pos (.inl (by omega)), if_pos HE.out.symm])
      go_upto_region 5 with fail
      obtain ⟨w2, hw2⟩ : ∃ w2 : World, w2 = w1.setCell ⟨b2, 1, none⟩ (.int .i64 2) := ⟨_, rfl⟩
      have hF2 : Fr (fun k => k = b2) w1 w2 := by rw [hw2]; exact (Fr.refl (fun k => k = b2) w1).setCell (p := ⟨b2, 1, none⟩) (fun _ => rfl) _
      have HB2W : Hid (Blk w2 b2 98 #[.slice A 0 c, .int .i64 2]) := Lib.hid (by
        have := HB2.out.set 1 (.int .i64 2)
        rw [hw2]
        simpa using this)
      have HB5W : Hid (Blk w2 b5 98 #[.slice none 0 0, .int .i64 0]) := Lib.hid (HB5.out.fr hF2 hne52)
      have HF2 := Lib.hid hF2
      rw [← hw2]
      clear hw2 hF2 c20 c21 c50 c51 f50 f51 f20 f21
      have c50 : w2.cell? ⟨b5, 0, none⟩ = some (.slice none 0 0) := HB5W.out.cell 0
      have c51 : w2.cell? ⟨b5, 1, none⟩ = some (.int .i64 0) := HB5W.out.cell 1
      have f50 : w2.frozen? ⟨b5, 0, none⟩ = false := HB5W.out.frozen 0
      have f51 : w2.frozen? ⟨b5, 1, none⟩ = false := HB5W.out.frozen 1
      have hS0 : BoxR b2 (.slice A 0 c) (.int .i64 2) w2.drew := BoxR.of HB2W.out
      refine wp_region_mixH (BoxR b2 (.slice A 0 c) (.int .i64 2)) [(true, 0), (true, 1), (false, 2)] (by kernel_rfl) (by kernel_rfl) hS0 (fun hne => ?_)
      have q0 : ∀ p : HW (BoxR b2 (.slice A 0 c) (.int .i64 2)), p.w.cell? ⟨b2, 0, none⟩ = some (.slice A 0 c) := fun p => p.h.1
      have q1 : ∀ p : HW (BoxR b2 (.slice A 0 c) (.int .i64 2)), p.w.cell? ⟨b2, 1, none⟩ = some (.int .i64 2) := fun p => p.h.2
      iterate 2 (refine mix_take (o := ⟨_, _, _, _, _, _⟩) rfl (fun K hK => ?_); go_simp; refine hK _ ?_; clear hK K)
      refine mix_act (o := ⟨_, _, _, _, _, _⟩) rfl (fun K hK => ?_) (.inl rfl)
      go_simp
      obtain ⟨w3, hw3⟩ : ∃ w3 : World, w3 = ((w2.setCell ⟨b5, 0, none⟩ (.slice A 0 c)).setCell ⟨b5, 1, none⟩ (.int .i64 2)).drew := ⟨_, rfl⟩
      have hF3 : Fr (fun k => k = b5) w2 w3 := by rw [hw3]; exact (((Fr.refl (fun k => k = b5) w2).setCell (p := ⟨b5, 0, none⟩) (fun _ => rfl) _).setCell (p := ⟨b5, 1, none⟩) (fun _ => rfl) _).drew
      have hB3 : Blk w3 b5 98 #[(.slice A 0 c), (.int .i64 2)] := by rw [hw3]; exact blk_set2 HB5W.out (.slice A 0 c) (.int .i64 2)
      rw [← hw3]
      refine hK.out _ _ (fun _ => BoxR.of (HB2W.out.fr hF3 hne25)) ?_
      clear hK K q0 q1
      refine mix_done ?_
      have r0 : w3.cell? ⟨b5, 0, none⟩ = some (.slice A 0 c) := hB3.cell 0
      have r1 : w3.cell? ⟨b5, 1, none⟩ = some (.int .i64 2) := hB3.cell 1
      have HF3 := Lib.hid hF3
      clear hw3 hF3 hB3 hS0
      go_wp2_with fail
      have HNF : Hid (New w w3) := Lib.hid ((HN1.out.fr HF2.out (fun k hk => by have := HZ.out; omega)).fr HF3.out (fun k hk => by have := HZ.out; omega))
      refine bodyPost_ret (v := .tuple #[.bool false, .agg #[.slice A 0 c, .int .i64 2]]) (by simp [results, Try.results57, go_sem, r0, r1]) rfl ⟨?_, HNF.out⟩
      rw [HRR.out]
      exact ⟨A, 0, c, rfl, ⟨HNF.out.rd H.out.rd, H.out.byt, H.out.nc, H.out.cm⟩⟩
    · obtain ⟨gA, o, rfl, hpg, -, hq⟩ := H.out.rd.out (by omega) (by omega)
      have hxl : 0 < s.xs.length := by rw [HLN.out]; omega
      have hby := H.out.byt s.xs[0] (List.getElem_mem _)
      have hcx : w1.cell? ⟨gA, o, none⟩ = some (.int .u8 s.xs[0]) := HN1.out.cell_ (hq 0 _ (by simp [u8s, hxl]))
      have hhd : s.xs.headD 0 = s.xs[0] := by
        obtain ⟨xs, e⟩ := s
        match xs, hxl with
        | a :: r, _ => rfl
      have hlf : s.left = n := by unfold Rs.left; rw [if_pos HE.out.symm, HLN.out]
      have hf : s.flag = if (1 : Int) < s.xs[0] then (false, s.bad 2) else (decide ((s.num 1).1 = 1), (s.num 1).2) := by
        unfold Rs.flag
        rw [hhd, hlf]
        by_cases h1 : (1 : Int) < s.xs[0]
        · rw [if_pos (.inr h1), if_pos h1]
        · rw [if_neg (by rintro (h | h) <;> omega), if_neg h1]
      have hnum : s.num 1 = (s.xs[0].toNat, ⟨s.xs.drop 1, 0⟩) := by
        unfold Rs.num Rs.raw
        rw [hlf, if_neg (by omega), ← HE.out]
        obtain ⟨xs, e⟩ := s
        match xs, hxl with
        | a :: r, _ => simp [valL]
      rw [hnum] at hf
      have hgb : gA ≠ b5 ∧ gA ≠ b2 := by have := HP.out gA hpg; have := HZ.out; omega
      obtain ⟨x, hx⟩ : ∃ x, x = s.xs[0] := ⟨_, rfl⟩
      rw [← hx] at hf hcx hby
      have HF := Lib.hid hf
      clear hf hnum hhd hq hx hlf
      have hn1 : decide (n = 0) = false := decide_eq_false hn0
      have hnz : ((n : Int) == 0) = false := by simp; omega
      have hpn : (0 : Int) < (n : Int) := by omega
      have hpn2 : 0 < n := by omega
      by_cases h1 : (1 : Int) < x
      · have hd1 : decide (1 < x) = true := decide_eq_true h1
        have HRR : Hid (r = (false, ⟨s.xs, 2⟩)) := Lib.hid (by
          rw [HR.out, HF.out, if_pos h1]
          unfold Rs.bad
          rw [if_pos HE.out.symm])
        go_upto_region 5 with fail
        obtain ⟨w2, hw2⟩ : ∃ w2 : World, w2 = w1.setCell ⟨b2, 1, none⟩ (.int .i64 2) := ⟨_, rfl⟩
        have hF2 : Fr (fun k => k = b2) w1 w2 := by rw [hw2]; exact (Fr.refl (fun k => k = b2) w1).setCell (p := ⟨b2, 1, none⟩) (fun _ => rfl) _
        have HB2W : Hid (Blk w2 b2 98 #[.slice (some ⟨gA, o, none⟩) n c, .int .i64 2]) := Lib.hid (by
          have := HB2.out.set 1 (.int .i64 2)
          rw [hw2]
          simpa using this)
        have HB5W : Hid (Blk w2 b5 98 #[.slice none 0 0, .int .i64 0]) := Lib.hid (HB5.out.fr hF2 hne52)
        have HF2 := Lib.hid hF2
        rw [← hw2]
        clear hw2 hF2 c20 c21 c50 c51 f50 f51 f20 f21
        have c50 : w2.cell? ⟨b5, 0, none⟩ = some (.slice none 0 0) := HB5W.out.cell 0
        have c51 : w2.cell? ⟨b5, 1, none⟩ = some (.int .i64 0) := HB5W.out.cell 1
        have f50 : w2.frozen? ⟨b5, 0, none⟩ = false := HB5W.out.frozen 0
        have f51 : w2.frozen? ⟨b5, 1, none⟩ = false := HB5W.out.frozen 1
        have hS0 : BoxR b2 (.slice (some ⟨gA, o, none⟩) n c) (.int .i64 2) w2.drew := BoxR.of HB2W.out
        refine wp_region_mixH (BoxR b2 (.slice (some ⟨gA, o, none⟩) n c) (.int .i64 2)) [(true, 0), (true, 1), (false, 2)] (by kernel_rfl) (by kernel_rfl) hS0 (fun hne => ?_)
        have q0 : ∀ p : HW (BoxR b2 (.slice (some ⟨gA, o, none⟩) n c) (.int .i64 2)), p.w.cell? ⟨b2, 0, none⟩ = some (.slice (some ⟨gA, o, none⟩) n c) := fun p => p.h.1
        have q1 : ∀ p : HW (BoxR b2 (.slice (some ⟨gA, o, none⟩) n c) (.int .i64 2)), p.w.cell? ⟨b2, 1, none⟩ = some (.int .i64 2) := fun p => p.h.2
        iterate 2 (refine mix_take (o := ⟨_, _, _, _, _, _⟩) rfl (fun K hK => ?_); go_simp; refine hK _ ?_; clear hK K)
        refine mix_act (o := ⟨_, _, _, _, _, _⟩) rfl (fun K hK => ?_) (.inl rfl)
        go_simp
        obtain ⟨w3, hw3⟩ : ∃ w3 : World, w3 = ((w2.setCell ⟨b5, 0, none⟩ (.slice (some ⟨gA, o, none⟩) n c)).setCell ⟨b5, 1, none⟩ (.int .i64 2)).drew := ⟨_, rfl⟩
        have hF3 : Fr (fun k => k = b5) w2 w3 := by rw [hw3]; exact (((Fr.refl (fun k => k = b5) w2).setCell (p := ⟨b5, 0, none⟩) (fun _ => rfl) _).setCell (p := ⟨b5, 1, none⟩) (fun _ => rfl) _).drew
        have hB3 : Blk w3 b5 98 #[(.slice (some ⟨gA, o, none⟩) n c), (.int .i64 2)] := by rw [hw3]; exact blk_set2 HB5W.out (.slice (some ⟨gA, o, none⟩) n c) (.int .i64 2)
        rw [← hw3]
        refine hK.out _ _ (fun _ => BoxR.of (HB2W.out.fr hF3 hne25)) ?_
        clear hK K q0 q1
        refine mix_done ?_
        have r0 : w3.cell? ⟨b5, 0, none⟩ = some (.slice (some ⟨gA, o, none⟩) n c) := hB3.cell 0
        have r1 : w3.cell? ⟨b5, 1, none⟩ = some (.int .i64 2) := hB3.cell 1
        have HF3 := Lib.hid hF3
        clear hw3 hF3 hB3 hS0
        go_wp2_with fail
        have HNF : Hid (New w w3) := Lib.hid ((HN1.out.fr HF2.out (fun k hk => by have := HZ.out; omega)).fr HF3.out (fun k hk => by have := HZ.out; omega))
        refine bodyPost_ret (v := .tuple #[.bool false, .agg #[.slice (some ⟨gA, o, none⟩) n c, .int .i64 2]]) (by simp [results, Try.results57, go_sem, r0, r1]) rfl ⟨?_, HNF.out⟩
        rw [HRR.out]
        exact ⟨some ⟨gA, o, none⟩, n, c, rfl, ⟨HNF.out.rd H.out.rd, H.out.byt, H.out.nc, H.out.cm⟩⟩
      · have hd1 : decide (1 < x) = false := decide_eq_false h1
        have HRR : Hid (r = (decide (x.toNat = 1), ⟨s.xs.drop 1, 0⟩)) := Lib.hid (by rw [HR.out, HF.out, if_neg h1])
        have hri := rin_drop (k := 1) H.out (by omega) 0
        have h1c : 1 ≤ c := by omega
        have h1n : (1 : Int) ≤ (n : Int) := by omega
        have hmp : Option.map (fun x : Addr => x.add 1) (some ⟨gA, o, none⟩) = some ⟨gA, o + 1, none⟩ := by simp [Addr.add]
        rw [hmp] at hri
        clear hmp
        go_wp2_with fail
        have hS0 : BoxRx b2 (.slice (some ⟨gA, o, none⟩) n c) (.int .i64 0) gA o (.int .u8 x) w1.drew := ⟨c20, c21, hcx⟩
        refine wp_region_mixH (BoxRx b2 (.slice (some ⟨gA, o, none⟩) n c) (.int .i64 0) gA o (.int .u8 x)) [(true, 0), (true, 1), (true, 2), (true, 3), (true, 4), (true, 5), (true, 6), (true, 7), (true, 8), (true, 9), (false, 10)] (by kernel_rfl) (by kernel_rfl) hS0 (fun hne => ?_)
        have q0 : ∀ p : HW (BoxRx b2 (.slice (some ⟨gA, o, none⟩) n c) (.int .i64 0) gA o (.int .u8 x)), p.w.cell? ⟨b2, 0, none⟩ = some (.slice (some ⟨gA, o, none⟩) n c) := fun p => p.h.1
        have q1 : ∀ p : HW (BoxRx b2 (.slice (some ⟨gA, o, none⟩) n c) (.int .i64 0) gA o (.int .u8 x)), p.w.cell? ⟨gA, o, none⟩ = some (.int .u8 x) := fun p => p.h.2.2
        iterate 10 (refine mix_take (o := ⟨_, _, _, _, _, _⟩) rfl (fun K hK => ?_); go_simp; refine hK _ ?_; clear hK K)
        refine mix_act (o := ⟨_, _, _, _, _, _⟩) rfl (fun K hK => ?_) (.inl rfl)
        go_simp
        generalize (if c = 1 then some (⟨gA, o, none⟩ : Addr) else some ⟨gA, o + 1, none⟩) = A2 at hri ⊢
        have HRI := Lib.hid hri
        obtain ⟨w3, hw3⟩ : ∃ w3 : World, w3 = ((w1.setCell ⟨b5, 0, none⟩ (.slice A2 (n - 1) (c - 1))).setCell ⟨b5, 1, none⟩ (.int .i64 0)).drew := ⟨_, rfl⟩
        have hF3 : Fr (fun k => k = b5) w1 w3 := by rw [hw3]; exact (((Fr.refl (fun k => k = b5) w1).setCell (p := ⟨b5, 0, none⟩) (fun _ => rfl) _).setCell (p := ⟨b5, 1, none⟩) (fun _ => rfl) _).drew
        have hB3 : Blk w3 b5 98 #[.slice A2 (n - 1) (c - 1), .int .i64 0] := by rw [hw3]; exact blk_set2 HB5.out _ _
        rw [← hw3]
        refine hK.out _ _ (fun _ => ⟨(HB2.out.fr hF3 hne25).cell 0, (HB2.out.fr hF3 hne25).cell 1, hF3.cell_some hcx hgb.1⟩) ?_
        clear hK K q0 q1
        refine mix_done ?_
        have r0 : w3.cell? ⟨b5, 0, none⟩ = some (.slice A2 (n - 1) (c - 1)) := hB3.cell 0
        have r1 : w3.cell? ⟨b5, 1, none⟩ = some (.int .i64 0) := hB3.cell 1
        have HNF : Hid (New w w3) := Lib.hid (HN1.out.fr hF3 (fun k hk => by have := HZ.out; omega))
        obtain ⟨bb, hbb⟩ : ∃ bb, bb = (x == 1) := ⟨_, rfl⟩
        have HBB : Hid (bb = decide (x.toNat = 1)) := Lib.hid (by
          rw [hbb]
          by_cases hx1 : x = 1
          · subst hx1; rfl
          · have h2 : ¬ x.toNat = 1 := by omega
            rw [decide_eq_false h2]
            simpa using hx1)
        rw [← hbb]
        clear hw3 hF3 hB3 hS0 hri hbb
        go_wp2_with fail
        refine bodyPost_ret (v := .tuple #[.bool bb, .agg #[.slice A2 (n - 1) (c - 1), .int .i64 0]]) (by simp [results, Try.results57, go_sem, r0, r1]) rfl ⟨?_, HNF.out⟩
        rw [HRR.out]
        exact ⟨A2, n - 1, c - 1, by rw [HBB.out]; rfl, HRI.out.new HNF.out⟩
  · skip
    have hz : ((e0 : Int) != 0) = true := by simp; omega
    have hz2 : ((e0 : Int) == 0) = false := by simp; omega
    have hd0 : decide ((e0 : Int) = 0) = false := decide_eq_false (by omega)
    have HB2W := HB2
    have HB5W := HB5
    have HRR : Hid (r = (false, s)) := Lib.hid (by rw [HR.out]; exact flag_err (by rw [← HE.out]; exact h0))
    go_wp2_with fail
    have hS0 : BoxR b2 (.slice A n c) (.int .i64 e0) w1.drew := BoxR.of HB2W.out
    refine wp_region_mixH (BoxR b2 (.slice A n c) (.int .i64 e0)) [(true, 0), (true, 1), (false, 2)] (by kernel_rfl) (by kernel_rfl) hS0 (fun hne => ?_)
    have q0 : ∀ p : HW (BoxR b2 (.slice A n c) (.int .i64 e0)), p.w.cell? ⟨b2, 0, none⟩ = some (.slice A n c) := fun p => p.h.1
    have q1 : ∀ p : HW (BoxR b2 (.slice A n c) (.int .i64 e0)), p.w.cell? ⟨b2, 1, none⟩ = some (.int .i64 e0) := fun p => p.h.2
    iterate 2 (refine mix_take (o := ⟨_, _, _, _, _, _⟩) rfl (fun K hK => ?_); go_simp; refine hK _ ?_; clear hK K)
    refine mix_act (o := ⟨_, _, _, _, _, _⟩) rfl (fun K hK => ?_) (.inl rfl)
    go_simp
    obtain ⟨w3, hw3⟩ : ∃ w3 : World, w3 = ((w1.setCell ⟨b5, 0, none⟩ (.slice A n c)).setCell ⟨b5, 1, none⟩ (.int .i64 e0)).drew := ⟨_, rfl⟩
    have hF3 : Fr (fun k => k = b5) w1 w3 := by rw [hw3]; exact (((Fr.refl (fun k => k = b5) w1).setCell (p := ⟨b5, 0, none⟩) (fun _ => rfl) _).setCell (p := ⟨b5, 1, none⟩) (fun _ => rfl) _).drew
    have hB3 : Blk w3 b5 98 #[(.slice A n c), (.int .i64 e0)] := by rw [hw3]; exact blk_set2 HB5W.out (.slice A n c) (.int .i64 e0)
    rw [← hw3]
    refine hK.out _ _ (fun _ => BoxR.of (HB2W.out.fr hF3 hne25)) ?_
    clear hK K q0 q1
    refine mix_done ?_
    have r0 : w3.cell? ⟨b5, 0, none⟩ = some (.slice A n c) := hB3.cell 0
    have r1 : w3.cell? ⟨b5, 1, none⟩ = some (.int .i64 e0) := hB3.cell 1
    have HF3 := Lib.hid hF3
    clear hw3 hF3 hB3 hS0
    go_wp2_with fail
    have HNF : Hid (New w w3) := Lib.hid (HN1.out.fr HF3.out (fun k hk => by have := HZ.out; omega))
    refine bodyPost_ret (v := .tuple #[.bool false, .agg #[.slice A n c, .int .i64 e0]]) (by simp [results, Try.results57, go_sem, r0, r1]) rfl ⟨?_, HNF.out⟩
    rw [HRR.out]
    exact ⟨A, n, c, by rw [HE.out]; rfl, H.out.new HNF.out⟩
end Go.Proofs.Ytfhinmjpokollaa
/- The reference's reader of octets: Field, End. No condition but that what is read can be read. -/
namespace Go.Proofs.Ytfhinmjpokollaa
set_option linter.unusedVariables false
set_option linter.unusedSimpArgs false
set_option linter.constructorNameAsVariable false
open Go.RowKit Go.Maps

theorem bytes_err {s : Rs} (h : s.e ≠ 0) (m : Nat) : s.bytes m = ([], s) := by
  have hl : s.left = 0 := by unfold Rs.left; rw [if_neg h]
  unfold Rs.bytes
  rw [hl, if_pos (by omega)]
  unfold Rs.bad
  rw [if_neg h]
set_option maxHeartbeats 8000000 in
theorem field_any {p : Nat → Prop} {w : World} {A : Option Addr} {n c : Nat} {s : Rs} (h : RIn p w A n c s) (most : Nat) (hmost : most ≤ 1000000) :
    Calls Try.prog 58 #[rV A n c s.e, .int .i64 most] w fun e w' => TakeSays p (s.bytes most) e w' ∧ New w w' := by
  have H := Lib.hid h
  have hn := h.len
  have HLN := Lib.hid hn
  have hcm := h.cm
  have hnc := h.nc
  unfold rV
  obtain ⟨r, hr⟩ : ∃ r, r = s.bytes most := ⟨_, rfl⟩
  rw [← hr]
  have HR := Lib.hid hr
  obtain ⟨e0, he0⟩ : ∃ e0, e0 = s.e := ⟨_, rfl⟩
  rw [← he0]
  have HE := Lib.hid he0
  clear h hr he0 hn
  go_enter Try.func58, Try.ntmps58
  go_upto_region 1 with fail
  obtain ⟨w1, hw1⟩ : ∃ w1 : World, w1 = (w.alloc (.cells #[.slice A n c, .int .i64 e0] 98)).alloc (.cells #[.slice none 0 0, .int .i64 0] 98) := ⟨_, rfl⟩
  obtain ⟨b2, hb2⟩ : ∃ b2, b2 = w.heap.size := ⟨_, rfl⟩
  obtain ⟨b5, hb5⟩ : ∃ b5, b5 = w.heap.size + 1 := ⟨_, rfl⟩
  have HN1 : Hid (New w w1) := Lib.hid (by rw [hw1]; exact New.al (New.al (New.refl _) _) _)
  have HB2 : Hid (Blk w1 b2 98 #[.slice A n c, .int .i64 e0]) := Lib.hid (by rw [hw1, hb2]; exact (Blk.new _ _ _).alloc _)
  have HB5 : Hid (Blk w1 b5 98 #[.slice none 0 0, .int .i64 0]) := Lib.hid (by rw [hw1, hb5]; exact Blk.new' _ _ _ (by simp))
  have HZ : Hid (w.heap.size ≤ b2 ∧ w.heap.size ≤ b5) := Lib.hid ⟨by omega, by omega⟩
  have hne25 : b2 ≠ b5 := by omega
  rw [← hw1, ← hb5, ← hb2]
  clear hw1 hb2 hb5
  have c20 : w1.cell? ⟨b2, 0, none⟩ = some (.slice A n c) := HB2.out.cell 0
  have c21 : w1.cell? ⟨b2, 1, none⟩ = some (.int .i64 e0) := HB2.out.cell 1
  have c50 : w1.cell? ⟨b5, 0, none⟩ = some (.slice none 0 0) := HB5.out.cell 0
  have c51 : w1.cell? ⟨b5, 1, none⟩ = some (.int .i64 0) := HB5.out.cell 1
  have f50 : w1.frozen? ⟨b5, 0, none⟩ = false := HB5.out.frozen 0
  have f51 : w1.frozen? ⟨b5, 1, none⟩ = false := HB5.out.frozen 1
  have f20 : w1.frozen? ⟨b2, 0, none⟩ = false := HB2.out.frozen 0
  have f21 : w1.frozen? ⟨b2, 1, none⟩ = false := HB2.out.frozen 1
  have hne52 : ¬ b5 = b2 := fun e => hne25 e.symm
  by_cases h0 : e0 = 0
  · subst h0
    have hlf : s.left = n := by unfold Rs.left; rw [if_pos HE.out.symm, HLN.out]
    by_cases hn2 : n < 2
    · have HRR : Hid (r = ([], ⟨s.xs, 2⟩)) := Lib.hid (by
        rw [HR.out]
        unfold Rs.bytes
        rw [hlf, if_pos hn2]
        unfold Rs.bad
        rw [if_pos HE.out.symm])
      have hd2 : decide ((2 : Int) ≤ (n : Int)) = false := decide_eq_false (by omega)
      clear hlf
      go_upto_region 8 with fail
      obtain ⟨w2, hw2⟩ : ∃ w2 : World, w2 = w1.setCell ⟨b2, 1, none⟩ (.int .i64 2) := ⟨_, rfl⟩
      have hF2 : Fr (fun k => k = b2) w1 w2 := by rw [hw2]; exact (Fr.refl (fun k => k = b2) w1).setCell (p := ⟨b2, 1, none⟩) (fun _ => rfl) _
      have HB2W : Hid (Blk w2 b2 98 #[.slice A n c, .int .i64 2]) := Lib.hid (by
        have := HB2.out.set 1 (.int .i64 2)
        rw [hw2]
        simpa using this)
      have HB5W : Hid (Blk w2 b5 98 #[.slice none 0 0, .int .i64 0]) := Lib.hid (HB5.out.fr hF2 hne52)
      have HF2 := Lib.hid hF2
      rw [← hw2]
      clear hw2 hF2 c20 c21 c50 c51 f50 f51 f20 f21
      have c50 : w2.cell? ⟨b5, 0, none⟩ = some (.slice none 0 0) := HB5W.out.cell 0
      have c51 : w2.cell? ⟨b5, 1, none⟩ = some (.int .i64 0) := HB5W.out.cell 1
      have f50 : w2.frozen? ⟨b5, 0, none⟩ = false := HB5W.out.frozen 0
      have f51 : w2.frozen? ⟨b5, 1, none⟩ = false := HB5W.out.frozen 1
      have hS0 : BoxR b2 (.slice A n c) (.int .i64 2) w2.drew := BoxR.of HB2W.out
      refine wp_region_mixH (BoxR b2 (.slice A n c) (.int .i64 2)) [(true, 0), (true, 1), (false, 2)] (by kernel_rfl) (by kernel_rfl) hS0 (fun hne => ?_)
      have q0 : ∀ p : HW (BoxR b2 (.slice A n c) (.int .i64 2)), p.w.cell? ⟨b2, 0, none⟩ = some (.slice A n c) := fun p => p.h.1
      have q1 : ∀ p : HW (BoxR b2 (.slice A n c) (.int .i64 2)), p.w.cell? ⟨b2, 1, none⟩ = some (.int .i64 2) := fun p => p.h.2
      iterate 2 (refine mix_take (o := ⟨_, _, _, _, _, _⟩) rfl (fun K hK => ?_); go_simp; refine hK _ ?_; clear hK K)
      refine mix_act (o := ⟨_, _, _, _, _, _⟩) rfl (fun K hK => ?_) (.inl rfl)
      go_simp
      obtain ⟨w3, hw3⟩ : ∃ w3 : World, w3 = ((w2.setCell ⟨b5, 0, none⟩ (.slice A n c)).setCell ⟨b5, 1, none⟩ (.int .i64 2)).drew := ⟨_, rfl⟩
      have hF3 : Fr (fun k => k = b5) w2 w3 := by rw [hw3]; exact (((Fr.refl (fun k => k = b5) w2).setCell (p := ⟨b5, 0, none⟩) (fun _ => rfl) _).setCell (p := ⟨b5, 1, none⟩) (fun _ => rfl) _).drew
      have hB3 : Blk w3 b5 98 #[(.slice A n c), (.int .i64 2)] := by rw [hw3]; exact blk_set2 HB5W.out (.slice A n c) (.int .i64 2)
      rw [← hw3]
      refine hK.out _ _ (fun _ => BoxR.of (HB2W.out.fr hF3 hne25)) ?_
      clear hK K q0 q1
      refine mix_done ?_
      have r0 : w3.cell? ⟨b5, 0, none⟩ = some (.slice A n c) := hB3.cell 0
      have r1 : w3.cell? ⟨b5, 1, none⟩ = some (.int .i64 2) := hB3.cell 1
      have HF3 := Lib.hid hF3
      clear hw3 hF3 hB3 hS0
      go_wp2_with fail
      have HNF : Hid (New w w3) := Lib.hid ((HN1.out.fr HF2.out (fun k hk => by have := HZ.out; omega)).fr HF3.out (fun k hk => by have := HZ.out; omega))
      refine bodyPost_ret (v := .tuple #[.slice none 0 0, .agg #[.slice A n c, .int .i64 2]]) (by simp [results, Try.results58, go_sem, r0, r1]) rfl ⟨?_, HNF.out⟩
      rw [HRR.out]
      exact ⟨none, 0, A, n, c, rfl, rd_none _, Nat.le_refl _, ⟨HNF.out.rd H.out.rd, H.out.byt, H.out.nc, H.out.cm⟩⟩
    · have hd2 : decide ((2 : Int) ≤ (n : Int)) = true := decide_eq_true (by omega)
      have h2c : 2 ≤ c := by omega
      have hvl := valL_lt (xs := s.xs.take 2) (fun x hx => H.out.byt x (List.mem_of_mem_take hx))
      rw [List.length_take, HLN.out, Nat.min_eq_left (by omega)] at hvl
      have HVA := Lib.hid (fun W (hN : New w W) => value_any A 2 c (s.xs.take 2) W (Rd.take (hN.rd H.out.rd) (by omega)) (fun x hx => H.out.byt x (List.mem_of_mem_take hx)) (by omega))
      obtain ⟨v, hv⟩ : ∃ v, v = valL (s.xs.take 2) := ⟨_, rfl⟩
      rw [← hv] at hvl HVA
      have hv16 : v < 65536 := hvl
      have HRB : Hid (r = if most < v ∨ n - 2 < v then ([], ⟨s.xs, 2⟩) else (s.raw 2).2.raw v) := Lib.hid (by
        rw [HR.out]
        unfold Rs.bytes
        rw [hlf, if_neg hn2, ← hv]
        unfold Rs.bad
        rw [if_pos HE.out.symm])
      have h2n : (2 : Int) ≤ (n : Int) := by omega
      clear hvl hv
      by_cases hm : most < v
      · have HRR : Hid (r = ([], ⟨s.xs, 2⟩)) := Lib.hid (by rw [HRB.out, if_pos (.inl hm)])
        have hdm : decide (v ≤ most) = false := decide_eq_false (by omega)
        clear hlf
        go_wp2_with fail
        refine (HVA.out w1 HN1.out).mono ?_
        rintro e w1' ⟨rfl, rfl⟩
        go_upto_region 8 with fail
        obtain ⟨w2, hw2⟩ : ∃ w2 : World, w2 = w1.setCell ⟨b2, 1, none⟩ (.int .i64 2) := ⟨_, rfl⟩
        have hF2 : Fr (fun k => k = b2) w1 w2 := by rw [hw2]; exact (Fr.refl (fun k => k = b2) w1).setCell (p := ⟨b2, 1, none⟩) (fun _ => rfl) _
        have HB2W : Hid (Blk w2 b2 98 #[.slice A n c, .int .i64 2]) := Lib.hid (by
          have := HB2.out.set 1 (.int .i64 2)
          rw [hw2]
          simpa using this)
        have HB5W : Hid (Blk w2 b5 98 #[.slice none 0 0, .int .i64 0]) := Lib.hid (HB5.out.fr hF2 hne52)
        have HF2 := Lib.hid hF2
        rw [← hw2]
        clear hw2 hF2 c20 c21 c50 c51 f50 f51 f20 f21
        have c50 : w2.cell? ⟨b5, 0, none⟩ = some (.slice none 0 0) := HB5W.out.cell 0
        have c51 : w2.cell? ⟨b5, 1, none⟩ = some (.int .i64 0) := HB5W.out.cell 1
        have f50 : w2.frozen? ⟨b5, 0, none⟩ = false := HB5W.out.frozen 0
        have f51 : w2.frozen? ⟨b5, 1, none⟩ = false := HB5W.out.frozen 1
        have hS0 : BoxR b2 (.slice A n c) (.int .i64 2) w2.drew := BoxR.of HB2W.out
        refine wp_region_mixH (BoxR b2 (.slice A n c) (.int .i64 2)) [(true, 0), (true, 1), (false, 2)] (by kernel_rfl) (by kernel_rfl) hS0 (fun hne => ?_)
        have q0 : ∀ p : HW (BoxR b2 (.slice A n c) (.int .i64 2)), p.w.cell? ⟨b2, 0, none⟩ = some (.slice A n c) := fun p => p.h.1
        have q1 : ∀ p : HW (BoxR b2 (.slice A n c) (.int .i64 2)), p.w.cell? ⟨b2, 1, none⟩ = some (.int .i64 2) := fun p => p.h.2
        iterate 2 (refine mix_take (o := ⟨_, _, _, _, _, _⟩) rfl (fun K hK => ?_); go_simp; refine hK _ ?_; clear hK K)
        refine mix_act (o := ⟨_, _, _, _, _, _⟩) rfl (fun K hK => ?_) (.inl rfl)
        go_simp
        obtain ⟨w3, hw3⟩ : ∃ w3 : World, w3 = ((w2.setCell ⟨b5, 0, none⟩ (.slice A n c)).setCell ⟨b5, 1, none⟩ (.int .i64 2)).drew := ⟨_, rfl⟩
        have hF3 : Fr (fun k => k = b5) w2 w3 := by rw [hw3]; exact (((Fr.refl (fun k => k = b5) w2).setCell (p := ⟨b5, 0, none⟩) (fun _ => rfl) _).setCell (p := ⟨b5, 1, none⟩) (fun _ => rfl) _).drew
        have hB3 : Blk w3 b5 98 #[(.slice A n c), (.int .i64 2)] := by rw [hw3]; exact blk_set2 HB5W.out (.slice A n c) (.int .i64 2)
        rw [← hw3]
        refine hK.out _ _ (fun _ => BoxR.of (HB2W.out.fr hF3 hne25)) ?_
        clear hK K q0 q1
        refine mix_done ?_
        have r0 : w3.cell? ⟨b5, 0, none⟩ = some (.slice A n c) := hB3.cell 0
        have r1 : w3.cell? ⟨b5, 1, none⟩ = some (.int .i64 2) := hB3.cell 1
        have HF3 := Lib.hid hF3
        clear hw3 hF3 hB3 hS0
        go_wp2_with fail
        have HNF : Hid (New w w3) := Lib.hid ((HN1.out.fr HF2.out (fun k hk => by have := HZ.out; omega)).fr HF3.out (fun k hk => by have := HZ.out; omega))
        refine bodyPost_ret (v := .tuple #[.slice none 0 0, .agg #[.slice A n c, .int .i64 2]]) (by simp [results, Try.results58, go_sem, r0, r1]) rfl ⟨?_, HNF.out⟩
        rw [HRR.out]
        exact ⟨none, 0, A, n, c, rfl, rd_none _, Nat.le_refl _, ⟨HNF.out.rd H.out.rd, H.out.byt, H.out.nc, H.out.cm⟩⟩
      · have hdm : decide (v ≤ most) = true := decide_eq_true (by omega)
        by_cases hm2 : n - 2 < v
        · have HRR : Hid (r = ([], ⟨s.xs, 2⟩)) := Lib.hid (by rw [HRB.out, if_pos (.inr hm2)])
          have hdn : decide ((v : Int) ≤ (n : Int) - 2) = false := decide_eq_false (by omega)
          clear hlf
          go_wp2_with fail
          refine (HVA.out w1 HN1.out).mono ?_
          rintro e w1' ⟨rfl, rfl⟩
          go_upto_region 8 with fail
          obtain ⟨w2, hw2⟩ : ∃ w2 : World, w2 = w1.setCell ⟨b2, 1, none⟩ (.int .i64 2) := ⟨_, rfl⟩
          have hF2 : Fr (fun k => k = b2) w1 w2 := by rw [hw2]; exact (Fr.refl (fun k => k = b2) w1).setCell (p := ⟨b2, 1, none⟩) (fun _ => rfl) _
          have HB2W : Hid (Blk w2 b2 98 #[.slice A n c, .int .i64 2]) := Lib.hid (by
            have := HB2.out.set 1 (.int .i64 2)
            rw [hw2]
            simpa using this)
          have HB5W : Hid (Blk w2 b5 98 #[.slice none 0 0, .int .i64 0]) := Lib.hid (HB5.out.fr hF2 hne52)
          have HF2 := Lib.hid hF2
          rw [← hw2]
          clear hw2 hF2 c20 c21 c50 c51 f50 f51 f20 f21
          have c50 : w2.cell? ⟨b5, 0, none⟩ = some (.slice none 0 0) := HB5W.out.cell 0
          have c51 : w2.cell? ⟨b5, 1, none⟩ = some (.int .i64 0) := HB5W.out.cell 1
          have f50 : w2.frozen? ⟨b5, 0, none⟩ = false := HB5W.out.frozen 0
          have f51 : w2.frozen? ⟨b5, 1, none⟩ = false := HB5W.out.frozen 1
          have hS0 : BoxR b2 (.slice A n c) (.int .i64 2) w2.drew := BoxR.of HB2W.out
          refine wp_region_mixH (BoxR b2 (.slice A n c) (.int .i64 2)) [(true, 0), (true, 1), (false, 2)] (by kernel_rfl) (by kernel_rfl) hS0 (fun hne => ?_)
          have q0 : ∀ p : HW (BoxR b2 (.slice A n c) (.int .i64 2)), p.w.cell? ⟨b2, 0, none⟩ = some (.slice A n c) := fun p => p.h.1
          have q1 : ∀ p : HW (BoxR b2 (.slice A n c) (.int .i64 2)), p.w.cell? ⟨b2, 1, none⟩ = some (.int .i64 2) := fun p => p.h.2
          iterate 2 (refine mix_take (o := ⟨_, _, _, _, _, _⟩) rfl (fun K hK => ?_); go_simp; refine hK _ ?_; clear hK K)
          refine mix_act (o := ⟨_, _, _, _, _, _⟩) rfl (fun K hK => ?_) (.inl rfl)
          go_simp
          obtain ⟨w3, hw3⟩ : ∃ w3 : World, w3 = ((w2.setCell ⟨b5, 0, none⟩ (.slice A n c)).setCell ⟨b5, 1, none⟩ (.int .i64 2)).drew := ⟨_, rfl⟩
          have hF3 : Fr (fun k => k = b5) w2 w3 := by rw [hw3]; exact (((Fr.refl (fun k => k = b5) w2).setCell (p := ⟨b5, 0, none⟩) (fun _ => rfl) _).setCell (p := ⟨b5, 1, none⟩) (fun _ => rfl) _).drew
          have hB3 : Blk w3 b5 98 #[(.slice A n c), (.int .i64 2)] := by rw [hw3]; exact blk_set2 HB5W.out (.slice A n c) (.int .i64 2)
          rw [← hw3]
          refine hK.out _ _ (fun _ => BoxR.of (HB2W.out.fr hF3 hne25)) ?_
          clear hK K q0 q1
          refine mix_done ?_
          have r0 : w3.cell? ⟨b5, 0, none⟩ = some (.slice A n c) := hB3.cell 0
          have r1 : w3.cell? ⟨b5, 1, none⟩ = some (.int .i64 2) := hB3.cell 1
          have HF3 := Lib.hid hF3
          clear hw3 hF3 hB3 hS0
          go_wp2_with fail
          have HNF : Hid (New w w3) := Lib.hid ((HN1.out.fr HF2.out (fun k hk => by have := HZ.out; omega)).fr HF3.out (fun k hk => by have := HZ.out; omega))
          refine bodyPost_ret (v := .tuple #[.slice none 0 0, .agg #[.slice A n c, .int .i64 2]]) (by simp [results, Try.results58, go_sem, r0, r1]) rfl ⟨?_, HNF.out⟩
          rw [HRR.out]
          exact ⟨none, 0, A, n, c, rfl, rd_none _, Nat.le_refl _, ⟨HNF.out.rd H.out.rd, H.out.byt, H.out.nc, H.out.cm⟩⟩
        · have hdn : decide ((v : Int) ≤ (n : Int) - 2) = true := decide_eq_true (by omega)
          have hr1 : s.raw 2 = (s.xs.take 2, ⟨s.xs.drop 2, 0⟩) := by
            unfold Rs.raw
            rw [hlf, if_neg hn2, ← HE.out]
          have hr2 : (⟨s.xs.drop 2, 0⟩ : Rs).raw v = ((s.xs.drop 2).take v, ⟨(s.xs.drop 2).drop v, 0⟩) := by
            have hl2 : (⟨s.xs.drop 2, 0⟩ : Rs).left = n - 2 := by unfold Rs.left; rw [if_pos rfl]; dsimp only; rw [List.length_drop, HLN.out]
            unfold Rs.raw
            rw [hl2, if_neg hm2]
          have HRR : Hid (r = ((s.xs.drop 2).take v, ⟨s.xs.drop (2 + v), 0⟩)) := Lib.hid (by
            rw [HRB.out, if_neg (by omega), hr1]
            dsimp only
            rw [hr2, List.drop_drop])
          have hri2 := rin_drop (k := 2) H.out (by omega) 0
          have hri := rin_drop (k := 2 + v) H.out (by omega) 0
          have HTK : Hid (((s.xs.drop 2).take v).length = v) := Lib.hid (by rw [List.length_take, List.length_drop, HLN.out]; omega)
          have hwr : IntKind.i64.wrap (2 + (v : Int)) = 2 + v := IntWalk.i64_in _ (by omega)
          have htn : (2 + (v : Int)).toNat = 2 + v := by omega
          have h2v0 : (0 : Int) ≤ 2 + (v : Int) := by omega
          have h2vn : 2 + (v : Int) ≤ (n : Int) := by omega
          have h2vc : 2 + (v : Int) ≤ (c : Int) := by omega
          have h22 : (2 : Int) ≤ 2 + (v : Int) := by omega
          have h2vnN : 2 + v ≤ n := by omega
          have h2vcN : 2 + v ≤ c := by omega
          have hsub : 2 + v - 2 = v := by omega
          clear hlf hr1 hr2
          go_wp2_with fail
          refine (HVA.out w1 HN1.out).mono ?_
          rintro e w1' ⟨rfl, rfl⟩
          go_wp2_with fail
          have HB2W := HB2
          have HB5W := HB5
          have hS0 : BoxR b2 (.slice A n c) (.int .i64 0) w1.drew := BoxR.of HB2W.out
          refine wp_region_mixH (BoxR b2 (.slice A n c) (.int .i64 0)) [(true, 0), (true, 1), (true, 2), (true, 3), (true, 4), (true, 5), (true, 6), (true, 7), (true, 8), (true, 9), (true, 10), (true, 11), (false, 12)] (by kernel_rfl) (by kernel_rfl) hS0 (fun hne => ?_)
          have q0 : ∀ p : HW (BoxR b2 (.slice A n c) (.int .i64 0)), p.w.cell? ⟨b2, 0, none⟩ = some (.slice A n c) := fun p => p.h.1
          iterate 12 (refine mix_take (o := ⟨_, _, _, _, _, _⟩) rfl (fun K hK => ?_); go_simp; refine hK _ ?_; clear hK K)
          refine mix_act (o := ⟨_, _, _, _, _, _⟩) rfl (fun K hK => ?_) (.inl rfl)
          go_simp
          have hmp2 : Option.map (fun x : Addr => x.add 2) A = Option.map (fun x : Addr => (⟨x.block, x.off + 2, none⟩ : Addr)) A := by
            congr 1
          rw [hmp2] at hri2
          generalize (if c = 2 then A else Option.map (fun x : Addr => (⟨x.block, x.off + 2, none⟩ : Addr)) A) = A1 at hri2 ⊢
          generalize (if c = 2 + v then A else Option.map (fun x => x.add (2 + v)) A) = A2 at hri ⊢
          have HRI2 := Lib.hid hri2
          have HRI := Lib.hid hri
          obtain ⟨w3, hw3⟩ : ∃ w3 : World, w3 = ((w1.setCell ⟨b5, 0, none⟩ (.slice A2 (n - (2 + v)) (c - (2 + v)))).setCell ⟨b5, 1, none⟩ (.int .i64 0)).drew := ⟨_, rfl⟩
          have hF3 : Fr (fun k => k = b5) w1 w3 := by rw [hw3]; exact (((Fr.refl (fun k => k = b5) w1).setCell (p := ⟨b5, 0, none⟩) (fun _ => rfl) _).setCell (p := ⟨b5, 1, none⟩) (fun _ => rfl) _).drew
          have hB3 : Blk w3 b5 98 #[.slice A2 (n - (2 + v)) (c - (2 + v)), .int .i64 0] := by rw [hw3]; exact blk_set2 HB5W.out _ _
          rw [← hw3]
          refine hK.out _ _ (fun _ => BoxR.of (HB2W.out.fr hF3 hne25)) ?_
          clear hK K q0
          refine mix_done ?_
          have r0 : w3.cell? ⟨b5, 0, none⟩ = some (.slice A2 (n - (2 + v)) (c - (2 + v))) := hB3.cell 0
          have r1 : w3.cell? ⟨b5, 1, none⟩ = some (.int .i64 0) := hB3.cell 1
          have HNF : Hid (New w w3) := Lib.hid (HN1.out.fr hF3 (fun k hk => by have := HZ.out; omega))
          obtain ⟨n2, hn2e⟩ : ∃ n2, n2 = n - (2 + v) := ⟨_, rfl⟩
          obtain ⟨c2, hc2e⟩ : ∃ c2, c2 = c - (2 + v) := ⟨_, rfl⟩
          rw [← hn2e, ← hc2e] at r0 HRI
          rw [← hn2e, ← hc2e]
          have H2C : Hid (v ≤ c - 2) := Lib.hid (by omega)
          have H2N : Hid (v ≤ n - 2) := Lib.hid (by omega)
          clear hw3 hF3 hB3 hS0 hri hri2 hmp2 hwr htn h2v0 h2vn h2vc h22 h2vnN h2vcN hsub hn2e hc2e
          go_wp2_with fail
          refine bodyPost_ret (v := .tuple #[.slice A1 v (c - 2), .agg #[.slice A2 n2 c2, .int .i64 0]]) (by simp [results, Try.results58, go_sem, r0, r1]) rfl ⟨?_, HNF.out⟩
          rw [HRR.out]
          exact ⟨A1, c - 2, A2, n2, c2, by dsimp only; rw [HTK.out]; rfl, by dsimp only; rw [HTK.out]; exact HNF.out.rd (Rd.take HRI2.out.rd H2N.out), by dsimp only; rw [HTK.out]; exact H2C.out, HRI.out.new HNF.out⟩
  · skip
    have hz : ((e0 : Int) != 0) = true := by simp; omega
    have hz2 : ((e0 : Int) == 0) = false := by simp; omega
    have hd0 : decide ((e0 : Int) = 0) = false := decide_eq_false (by omega)
    have HB2W := HB2
    have HB5W := HB5
    have HRR : Hid (r = ([], s)) := Lib.hid (by rw [HR.out]; exact bytes_err (by rw [← HE.out]; exact h0) most)
    go_wp2_with fail
    have hS0 : BoxR b2 (.slice A n c) (.int .i64 e0) w1.drew := BoxR.of HB2W.out
    refine wp_region_mixH (BoxR b2 (.slice A n c) (.int .i64 e0)) [(true, 0), (true, 1), (false, 2)] (by kernel_rfl) (by kernel_rfl) hS0 (fun hne => ?_)
    have q0 : ∀ p : HW (BoxR b2 (.slice A n c) (.int .i64 e0)), p.w.cell? ⟨b2, 0, none⟩ = some (.slice A n c) := fun p => p.h.1
    have q1 : ∀ p : HW (BoxR b2 (.slice A n c) (.int .i64 e0)), p.w.cell? ⟨b2, 1, none⟩ = some (.int .i64 e0) := fun p => p.h.2
    iterate 2 (refine mix_take (o := ⟨_, _, _, _, _, _⟩) rfl (fun K hK => ?_); go_simp; refine hK _ ?_; clear hK K)
    refine mix_act (o := ⟨_, _, _, _, _, _⟩) rfl (fun K hK => ?_) (.inl rfl)
    go_simp
    obtain ⟨w3, hw3⟩ : ∃ w3 : World, w3 = ((w1.setCell ⟨b5, 0, none⟩ (.slice A n c)).setCell ⟨b5, 1, none⟩ (.int .i64 e0)).drew := ⟨_, rfl⟩
    have hF3 : Fr (fun k => k = b5) w1 w3 := by rw [hw3]; exact (((Fr.refl (fun k => k = b5) w1).setCell (p := ⟨b5, 0, none⟩) (fun _ => rfl) _).setCell (p := ⟨b5, 1, none⟩) (fun _ => rfl) _).drew
    have hB3 : Blk w3 b5 98 #[(.slice A n c), (.int .i64 e0)] := by rw [hw3]; exact blk_set2 HB5W.out (.slice A n c) (.int .i64 e0)
    rw [← hw3]
    refine hK.out _ _ (fun _ => BoxR.of (HB2W.out.fr hF3 hne25)) ?_
    clear hK K q0 q1
    refine mix_done ?_
    have r0 : w3.cell? ⟨b5, 0, none⟩ = some (.slice A n c) := hB3.cell 0
    have r1 : w3.cell? ⟨b5, 1, none⟩ = some (.int .i64 e0) := hB3.cell 1
    have HF3 := Lib.hid hF3
    clear hw3 hF3 hB3 hS0
    go_wp2_with fail
    have HNF : Hid (New w w3) := Lib.hid (HN1.out.fr HF3.out (fun k hk => by have := HZ.out; omega))
    refine bodyPost_ret (v := .tuple #[.slice none 0 0, .agg #[.slice A n c, .int .i64 e0]]) (by simp [results, Try.results58, go_sem, r0, r1]) rfl ⟨?_, HNF.out⟩
    rw [HRR.out]
    exact ⟨none, 0, A, n, c, by rw [HE.out]; rfl, rd_none _, Nat.le_refl _, H.out.new HNF.out⟩
theorem end_any {p : Nat → Prop} {w : World} {A : Option Addr} {n c : Nat} {s : Rs} (h : RIn p w A n c s) :
    Calls Try.prog 59 #[rV A n c s.e] w fun e w' => e = .returned (.int .i64 s.fin) ∧ New w w' := by
  have hn := h.len
  have hcm := h.cm
  have hnc := h.nc
  unfold rV Rs.fin
  rw [hn]
  obtain ⟨e0, he0⟩ : ∃ e0, e0 = s.e := ⟨_, rfl⟩
  rw [← he0]
  clear h he0 hn
  by_cases h0 : e0 = 0
  · subst h0
    rw [if_neg (by omega)]
    by_cases hn : 0 < n
    · have hd : decide ((0 : Int) < (n : Int)) = true := decide_eq_true (by omega)
      rw [if_pos hn]
      go_enter Try.func59, Try.ntmps59
      go_wp2_with fail
      go_ret
      exact ⟨rfl, New.al (New.refl _) _⟩
    · have hd : decide ((0 : Int) < (n : Int)) = false := decide_eq_false (by omega)
      rw [if_neg hn]
      go_enter Try.func59, Try.ntmps59
      go_wp2_with fail
      go_ret
      exact ⟨rfl, New.al (New.refl _) _⟩
  · have hz : ((e0 : Int) != 0) = true := by simp; omega
    have hz2 : ((e0 : Int) == 0) = false := by simp; omega
    have hd0 : decide ((e0 : Int) = 0) = false := decide_eq_false (by omega)
    rw [if_pos h0]
    go_enter Try.func59, Try.ntmps59
    go_wp2_with fail
    go_ret
    exact ⟨rfl, New.al (New.refl _) _⟩
end Go.Proofs.Ytfhinmjpokollaa
