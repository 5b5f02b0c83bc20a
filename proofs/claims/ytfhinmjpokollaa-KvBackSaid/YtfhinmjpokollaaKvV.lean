/- The batch of bytes, as the program reads it. No condition but that the bytes can be read. -/
import Derived.Test.YtfhinmjpokollaaKvU
import Derived.Test.YtfhinmjpokollaaOcS
namespace Go.Proofs.Ytfhinmjpokollaa
set_option linter.unusedVariables false
set_option linter.unusedSimpArgs false
set_option linter.constructorNameAsVariable false
open Go.RowKit Go.Maps Go.Sort

/-- A change in plain words. -/
structure PC where
  k : List Int
  v : List Int
  d : Bool
def pcOf (c : Ch) : PC := ⟨c.k.xs, c.v.xs, c.d⟩
/-- One change read. -/
def prsStep (s : Rs) : PC × Rs :=
  if s.flag.1 then (⟨(s.flag.2.bytes 16).1, ((s.flag.2.bytes 16).2.bytes 16384).1, false⟩, ((s.flag.2.bytes 16).2.bytes 16384).2)
  else (⟨(s.flag.2.bytes 16).1, [], true⟩, (s.flag.2.bytes 16).2)
def prs : Nat → Rs → List PC → List PC × Rs
  | 0, s, out => (out, s)
  | n + 1, s, out => if (prsStep s).1.k = [] then (out, (prsStep s).2.bad 2) else prs n (prsStep s).2 (out ++ [(prsStep s).1])
def pcOk (c : PC) : Bool := decide (1 ≤ c.k.length) && decide (c.k.length ≤ 16) && decide (c.v.length ≤ 16384) && !(c.d && decide (0 < c.v.length))
def pcsOk (L : List PC) : Bool := decide (1 ≤ L.length) && decide (L.length ≤ 600) && L.all pcOk
def parseB (xs : List Int) : Option (List PC) :=
  if (prs ((⟨xs, 0⟩ : Rs).num 2).1 ((⟨xs, 0⟩ : Rs).num 2).2 []).2.fin = 0 ∧ pcsOk (prs ((⟨xs, 0⟩ : Rs).num 2).1 ((⟨xs, 0⟩ : Rs).num 2).2 []).1 = true then some (prs ((⟨xs, 0⟩ : Rs).num 2).1 ((⟨xs, 0⟩ : Rs).num 2).2 []).1 else none
/-- A change whose bytes lie in blocks of bytes. -/
structure Ch.InT (w : World) (c : Ch) : Prop where
  k : RdT 5 w 1 c.k.A c.k.n (u8s c.k.xs)
  kb : Byt c.k.xs
  v : RdT 5 w 1 c.v.A c.v.n (u8s c.v.xs)
  vb : Byt c.v.xs
theorem Ch.InT.new {w w' : World} {c : Ch} (h : c.InT w) (hN : New w w') : c.InT w' := ⟨h.k.new hN, h.kb, h.v.new hN, h.vb⟩
theorem Ch.InT.fr {S : Nat → Prop} {w w' : World} {c : Ch} (h : c.InT w) (hF : Fr S w w') (hS : ∀ k, S k → ¬ IsT 5 w k) : c.InT w' := ⟨h.k.fr hF hS, h.kb, h.v.fr hF hS, h.vb⟩
theorem Ch.InT.in_ {w : World} {c : Ch} (h : c.InT w) : c.In (fun b => b < w.heap.size) w := ⟨⟨rd_szs h.k, h.kb⟩, ⟨rd_szs h.v, h.vb⟩⟩
theorem Ch.InT.pc {w : World} {c : Ch} (h : c.InT w) : c.k.xs.length = c.k.n ∧ c.v.xs.length = c.v.n := ⟨h.in_.k.len, h.in_.v.len⟩
theorem pcOk_of {w : World} {c : Ch} (h : c.InT w) : pcOk (pcOf c) = chOk c := by
  obtain ⟨h1, h2⟩ := h.pc
  unfold pcOk chOk pcOf
  simp only [h1, h2]
theorem pcsOk_of {w : World} {L : List Ch} (h : ∀ c ∈ L, c.InT w) : pcsOk (L.map pcOf) = chsOk L := by
  unfold pcsOk chsOk
  have hlen : (L.map pcOf).length = L.length := by simp
  have e : (L.map pcOf).all pcOk = L.all chOk := by
    clear hlen
    induction L with
    | nil => rfl
    | cons c L ih => rw [List.map_cons, List.all_cons, List.all_cons, pcOk_of (h c (List.mem_cons_self ..)), ih fun c hc => h c (List.mem_cons_of_mem _ hc)]
  rw [hlen, e]
theorem raw_len_le (s : Rs) (n : Nat) : (s.raw n).1.length ≤ n := raw_le s n
theorem bytes_le (s : Rs) (most : Nat) : (s.bytes most).1.length ≤ most := by
  unfold Rs.bytes
  split
  · simp
  · split
    · simp
    · next h =>
      have := raw_le (s.raw 2).2 (valL (s.xs.take 2))
      omega
theorem raw_byt2 {s : Rs} (h : Byt s.xs) (n : Nat) : Byt (s.raw n).2.xs := by
  unfold Rs.raw
  split
  · unfold Rs.bad
    split <;> exact h
  · exact fun x hx => h x (List.mem_of_mem_drop hx)
theorem bytes_byt {s : Rs} (h : Byt s.xs) (most : Nat) : Byt (s.bytes most).1 := by
  unfold Rs.bytes
  split
  · intro x hx; cases hx
  · split
    · intro x hx; cases hx
    · exact raw_byt (raw_byt2 h 2) _
/-- What stands in a round of Parse. -/
structure PrI (w : World) (g : Nat) (s : Rs) (A : Option Addr) (m c : Nat) (L : List Ch) (wr : World) : Prop where
  new : New w wr
  gz : w.heap.size ≤ g
  rd : RdIn wr g s
  own : wr.ownsRow w.heap.size 41 3 (.slice A m c) m (L.flatMap Ch.cells)
  el : ∀ c ∈ L, c.InT wr
  sz : ∀ c ∈ L, c.k.n ≤ 16 ∧ c.v.n ≤ 16384
theorem elC : ElemOf Try.prog 28 41 3 56 := ElemOf.mk' (z := .agg ch0.cells.toArray) Try.underlying28 (by kernel_rfl) rfl (by decide)
/-- What Parse says. -/
def ParseSays (w : World) (r : Option (List PC)) (e : Ending) (w' : World) : Prop :=
  (r = none ∧ e = .returned (.tuple #[.slice none 0 0, .iface 36 (.int .i64 2)])) ∨
  (∃ (A : Option Addr) (n c : Nat) (L : List Ch), r = some (L.map pcOf) ∧ e = .returned (.tuple #[.slice A n c, .nilIface]) ∧ RTb w' A n L)
set_option maxHeartbeats 8000000 in
set_option maxRecDepth 100000 in
theorem parse_any {p : Nat → Prop} (A : Option Addr) (n c : Nat) (xs : List Int) (w : World) (hR : Rd p w 1 A n (u8s xs)) (hb : Byt xs) (hn : n ≤ 140737488355328) :
    Calls Try.prog 31 #[.slice A n c] w fun e w' => ParseSays w (parseB xs) e w' ∧ New w w' := by
  have HF := Lib.hid (from_any A n c xs w hR hb hn)
  obtain ⟨N, hN⟩ : ∃ N, N = ((⟨xs, 0⟩ : Rs).num 2).1 := ⟨_, rfl⟩
  obtain ⟨s0, hs0⟩ : ∃ s0, s0 = ((⟨xs, 0⟩ : Rs).num 2).2 := ⟨_, rfl⟩
  have hN16 : N < 65536 := by
    rw [hN]
    unfold Rs.num
    have h1 := valL_lt (xs := ((⟨xs, 0⟩ : Rs).raw 2).1) (raw_byt (s := ⟨xs, 0⟩) hb 2)
    have h2 := raw_le (⟨xs, 0⟩ : Rs) 2
    have h3 : 256 ^ ((⟨xs, 0⟩ : Rs).raw 2).1.length ≤ 256 ^ 2 := Nat.pow_le_pow_right (by decide) h2
    exact Nat.lt_of_lt_of_le h1 h3
  obtain ⟨r, hr⟩ : ∃ r, r = prs N s0 [] := ⟨_, rfl⟩
  obtain ⟨q, hq⟩ : ∃ q, q = parseB xs := ⟨_, rfl⟩
  rw [← hq]
  unfold parseB at hq
  rw [← hN, ← hs0, ← hr] at hq
  have HNN := Lib.hid hN
  have HS0 := Lib.hid hs0
  have HRR := Lib.hid hr
  have HQ := Lib.hid hq
  clear hR hb hN hs0 hr hq
  go_enter Try.func31, Try.ntmps31
  go_wp2_with fail
  refine HF.out.mono ?_
  rintro e w1 ⟨g, rfl, hR1, hN1, hg⟩
  have HR1 := Lib.hid hR1
  have HN1 := Lib.hid hN1
  have HG := Lib.hid hg
  clear hR1 hN1 hg HF
  go_wp2_with fail
  refine (rnum_any HR1.out 2 (by omega)).mono ?_
  rintro e w2 ⟨rfl, hR2, hF2⟩
  rw [← HNN.out]
  rw [← HS0.out] at hR2
  have HI : Hid (PrI w g s0 none 0 0 [] w2) := Lib.hid ⟨HN1.out.fr hF2 (fun k hk => by have := HG.out; omega), HG.out, hR2, World.ownsRow_nil _ _ _ _, (fun c hc => nomatch hc), fun c hc => nomatch hc⟩
  have HP : Hid (r = prs (N - 0) s0 (([] : List Ch).map pcOf)) := Lib.hid HRR.out
  clear hR2 hF2 HR1 HN1
  go_wp2_with fail
  go_loopw [5, 11] (fun o i wr => ∃ (j m : Nat) (s : Rs) (A' : Option Addr) (c' : Nat) (L : List Ch), j ≤ N ∧ m ≤ j ∧ i = .int .u64 j ∧ o = .slice A' m c' ∧ Hid (PrI w g s A' m c' L wr) ∧ Hid (r = prs (N - j) s (L.map pcOf))) (fun o i _ => N - (intOf i).toNat)
  case atStart => exact ⟨0, 0, s0, none, 0, [], Nat.zero_le _, Nat.le_refl _, rfl, rfl, HI, HP⟩
  case round =>
    obtain ⟨j, m, s, A', c', L, hj, hm, rfl, rfl, HJ, HPJ⟩ := hrel
    clear HI HP
    by_cases hlt : j < N
    · skip
      obtain ⟨i0, hNj⟩ : ∃ i0, N - j = i0 + 1 := ⟨N - j - 1, by omega⟩
      obtain rfl : i0 = N - (j + 1) := by omega
      have hj0 : (0 : Int) ≤ (j : Int) := by omega
      have hjn : (j : Int) < (N : Int) := by omega
      cases hb : s.flag.1
      · as_aux_lemma =>
        have HFG := Lib.hid (rflag_any HJ.out.rd)
        rw [hb] at HFG
        obtain ⟨s1, hs1⟩ : ∃ s1, s1 = s.flag.2 := ⟨_, rfl⟩
        rw [← hs1] at HFG
        obtain ⟨key, hkey⟩ : ∃ key, key = (s1.bytes 16).1 := ⟨_, rfl⟩
        obtain ⟨s2, hs2⟩ : ∃ s2, s2 = (s1.bytes 16).2 := ⟨_, rfl⟩
        obtain ⟨kn, hkn⟩ : ∃ kn, kn = key.length := ⟨_, rfl⟩
        have HSTP : Hid (prsStep s = (⟨key, [], true⟩, s2)) := Lib.hid (by unfold prsStep; rw [hb, if_neg (by decide), ← hs1, ← hs2, ← hkey])
        have HKEY := Lib.hid hkey
        have HS2 := Lib.hid hs2
        have HKN := Lib.hid hkn
        have HK16 : Hid (kn ≤ 16) := Lib.hid (by rw [hkn, hkey]; exact bytes_le s1 16)
        clear hb hs1 hkey hs2 hkn
        go_wp2_with fail
        refine HFG.out.mono ?_
        rintro e w3 ⟨rfl, hR3, hF3⟩
        have HR3 := Lib.hid hR3
        have HF3 := Lib.hid hF3
        clear hR3 hF3
        have hky := rbytes_any HR3.out 16 (by omega)
        rw [← HS2.out, ← HKEY.out, ← HKN.out] at hky
        have HKY := Lib.hid hky
        clear hky
        go_wp2_with fail
        refine HKY.out.mono ?_
        rintro e w4 ⟨⟨kA, kc, rfl, bk, hbk, hO4⟩, hR4, hF4⟩
        have HF4 : Hid (Fr (fun k => k = g) wr w4) := Lib.hid (HF3.out.trans hF4)
        have HKB : Hid (Byt key) := Lib.hid (by rw [HKEY.out]; exact bytes_byt HR3.out.byt 16)
        have hng : ∀ k, k = g → ¬ IsT 5 wr k := fun k hk => by
          subst hk
          obtain ⟨Ar, cr, hbr, _⟩ := HJ.out.rd.st
          exact IsT.not_blk hbr (by decide)
        obtain ⟨w5, hw5⟩ : ∃ w5 : World, w5 = w4.alloc (.cells #[.slice kA kn kc, .slice none 0 0, .bool true] 41) := ⟨_, rfl⟩
        obtain ⟨b6, hb6⟩ : ∃ b6, b6 = w4.heap.size := ⟨_, rfl⟩
        have HN45 : Hid (New w4 w5) := Lib.hid (by rw [hw5]; exact New.al (New.refl _) _)
        have HB5 : Hid (Blk w5 b6 41 #[.slice kA kn kc, .slice none 0 0, .bool true]) := Lib.hid (by rw [hw5, hb6]; exact Blk.new _ _ _)
        have HF5 : Hid (Fr (fun k => k = g) wr w5) := Lib.hid (HF4.out.trans (HN45.out.toFr _))
        have HNG := Lib.hid hng
        have HRT : Hid (RdIn w5 g s2) := Lib.hid (hR4.new HN45.out)
        have HKT : Hid (RdT 5 w5 1 kA kn (u8s key)) := Lib.hid ((RdT.own hO4 rfl).new HN45.out)
        have HNT : Hid (New w w5) := Lib.hid (HJ.out.new.fr HF5.out (fun k hk => by have := HJ.out.gz; omega))
        have HOT : Hid (w5.ownsRow w.heap.size 41 3 (.slice A' m c') m (L.flatMap Ch.cells)) := Lib.hid (own_fr HJ.out.own HF5.out (fun k hk e => by
          obtain ⟨Ar, cr, hbr, _⟩ := HJ.out.rd.st
          subst e
          exact own_ne HJ.out.own hbr (by decide) hk))
        have HLT : Hid (∀ c ∈ L, c.InT w5) := Lib.hid (fun c hc => (HJ.out.el c hc).fr HF5.out HNG.out)
        have hgb : b6 ≠ g := by have := hR4.lt; omega
        clear hO4 hR4 hF4 hng hbk
        go_upto_region 6 with fail
        rw [← hw5, ← hb6]
        clear hw5 hb6
        have HBT := HB5
        have c0 : w5.cell? ⟨b6, 0, none⟩ = some (.slice kA kn kc) := HB5.out.cell 0
        have c2 : w5.cell? ⟨b6, 2, none⟩ = some (.bool true) := HB5.out.cell 2
        by_cases hk0 : kn = 0
        · subst hk0
          have hke : key = [] := List.eq_nil_of_length_eq_zero HKN.out.symm
          have HST : Hid (q = none) := Lib.hid (by
            have h1 := HPJ.out
            rw [hNj] at h1
            unfold prs at h1
            rw [HSTP.out, if_pos hke] at h1
            rw [HQ.out, h1]
            refine if_neg (fun h => ?_)
            have h2 := h.1
            dsimp only at h2
            revert h2
            unfold Rs.bad Rs.fin
            split <;> simp_all)
          have HFL := Lib.hid (rfail_any HRT.out 2 (by omega))
          have hfin : (s2.bad 2).fin ≠ 0 := by
            unfold Rs.bad Rs.fin
            split <;> simp_all
          have HFIN := Lib.hid hfin
          clear hfin hke HSTP hNj
          go_wp2_with fail
          refine HFL.out.mono ?_
          rintro e w7 ⟨rfl, hR7, hF7⟩
          have HN7 : Hid (New w w7) := Lib.hid (HNT.out.fr hF7 (fun k hk => by have := HJ.out.gz; omega))
          have HE7 := Lib.hid (rend_any hR7)
          clear hR7 hF7
          go_wp2_with fail
          refine HE7.out.mono ?_
          rintro e w8 ⟨rfl, rfl⟩
          rw [errV_pos HFIN.out]
          go_wp2_with fail
          go_ret2
          exact ⟨.inl ⟨HST.out, rfl⟩, HN7.out⟩
        · have hkne : key ≠ [] := fun e => hk0 (by have := HKN.out; rw [e] at this; simpa using this)
          have hkp : (0 : Int) < (kn : Int) := by omega
          have hkz : ((kn : Int) == 0) = false := by simp; omega
          have HST : Hid (r = prs (N - (j + 1)) s2 ((L ++ [(⟨⟨kA, kn, kc, key⟩, ⟨none, 0, 0, []⟩, true⟩ : Ch)]).map pcOf)) := Lib.hid (by
            have h1 := HPJ.out
            rw [hNj] at h1
            unfold prs at h1
            rw [HSTP.out, if_neg hkne] at h1
            rw [h1, List.map_append]
            rfl)
          have hdk : decide ((0 : Int) = (kn : Int)) = false := decide_eq_false (by omega)
          clear hkne HSTP hNj
          have e0 : w5.cell? ⟨b6, 0, none⟩ = some (.slice kA kn kc) := HBT.out.cell 0
          have e1 : w5.cell? ⟨b6, 1, none⟩ = some (.slice none 0 0) := HBT.out.cell 1
          have e2 : w5.cell? ⟨b6, 2, none⟩ = some (.bool true) := HBT.out.cell 2
          go_wp2_with (first
            | ((with_reducible refine atOpS ⟨some 34, .buildSlice _ _ _, _, _, _, _⟩ ?_); refine wpList_bs1 elC (by decide) rfl (.tmp 33) rfl #[.slice kA kn kc, .slice none 0 0, .bool true] rfl rfl ?_)
            | (at_builtin; refine atOpS ⟨some 35, _, _, _, _, _⟩ ?_; refine stopHere ?_))
          refine ⟨?_⟩
          refine wpList_app (o := ⟨some 35, _, _, _, _, _⟩) elC _ rfl (.tmp 32) (.tmp 34) rfl w.heap.size (.slice A' m c') m (L.flatMap Ch.cells) rfl (New.own (New.al (New.refl _) _) HOT.out) _ 1 1 [.slice kA kn kc, .slice none 0 0, .bool true] rfl (Rd.ofBlk (p := fun _ => True) (Blk.new _ 41 #[.slice kA kn kc, .slice none 0 0, .bool true]) 3 1 rfl trivial) (cells_one ⟨⟨kA, kn, kc, key⟩, ⟨none, 0, 0, []⟩, true⟩) (by unfold maxLen; omega) (by omega) (by have := HNT.out.size; simp; omega) ?_
          intro A8 d8 w8 hO8 hF8 hA8
          have HN8 : Hid (New w w8) := Lib.hid ((New.al HNT.out _).fr hF8 (fun k hk => (own_lt HOT.out k hk).1))
          have hF8t := ((New.al (New.refl w5) (.cells #[.slice kA kn kc, .slice none 0 0, .bool true] 41)).toFr (fun k => (Value.slice A' m c').ownBlock = some k)).trans hF8
          have hnB : ∀ k, (Value.slice A' m c').ownBlock = some k → ¬ IsT 5 w5 k := fun k hk => IsT.not_own HOT.out (by decide) hk
          have HI8 : Hid (PrI w g s2 A8 (m + 1) d8 (L ++ [⟨⟨kA, kn, kc, key⟩, ⟨none, 0, 0, []⟩, true⟩]) w8) := Lib.hid ⟨HN8.out, HJ.out.gz, HRT.out.fr hF8t (fun hk => by
              obtain ⟨Ar, cr, hbr, _⟩ := HRT.out.st
              exact own_ne HOT.out hbr (by decide) hk) hnB, by rw [List.flatMap_append]; simpa [Ch.cells] using hO8, fun c hc => by
              rcases List.mem_append.1 hc with hc | hc
              · exact (HLT.out c hc).fr hF8t hnB
              · rw [List.mem_singleton.1 hc]
                exact Ch.InT.fr (w := w5) (c := ⟨⟨kA, kn, kc, key⟩, ⟨none, 0, 0, []⟩, true⟩) ⟨HKT.out, HKB.out, RdT.nil, fun x hx => nomatch hx⟩ hF8t hnB, fun c hc => by
              rcases List.mem_append.1 hc with hc | hc
              · exact HJ.out.sz c hc
              · rw [List.mem_singleton.1 hc]
                exact ⟨HK16.out, Nat.zero_le _⟩⟩
          clear hO8 hF8 hA8 hF8t hnB
          go_wp2_with fail
          go_roundw
          case rel => exact ⟨j + 1, m + 1, _, A8, d8, _, by omega, by omega, by go_num, rfl, HI8, HST⟩
          case measure => simp [intOf]; omega
      · as_aux_lemma =>
        have HFG := Lib.hid (rflag_any HJ.out.rd)
        rw [hb] at HFG
        obtain ⟨s1, hs1⟩ : ∃ s1, s1 = s.flag.2 := ⟨_, rfl⟩
        rw [← hs1] at HFG
        obtain ⟨key, hkey⟩ : ∃ key, key = (s1.bytes 16).1 := ⟨_, rfl⟩
        obtain ⟨s2, hs2⟩ : ∃ s2, s2 = (s1.bytes 16).2 := ⟨_, rfl⟩
        obtain ⟨kn, hkn⟩ : ∃ kn, kn = key.length := ⟨_, rfl⟩
        obtain ⟨val, hval⟩ : ∃ val, val = (s2.bytes 16384).1 := ⟨_, rfl⟩
        obtain ⟨s3, hs3⟩ : ∃ s3, s3 = (s2.bytes 16384).2 := ⟨_, rfl⟩
        obtain ⟨vn, hvn⟩ : ∃ vn, vn = val.length := ⟨_, rfl⟩
        have HSTP : Hid (prsStep s = (⟨key, val, false⟩, s3)) := Lib.hid (by unfold prsStep; rw [hb, if_pos rfl, ← hs1, ← hs2, ← hkey, ← hval, ← hs3])
        have HVAL := Lib.hid hval
        have HS3 := Lib.hid hs3
        have HVN := Lib.hid hvn
        clear hval hs3 hvn
        have HKEY := Lib.hid hkey
        have HS2 := Lib.hid hs2
        have HKN := Lib.hid hkn
        have HK16 : Hid (kn ≤ 16) := Lib.hid (by rw [hkn, hkey]; exact bytes_le s1 16)
        clear hb hs1 hkey hs2 hkn
        go_wp2_with fail
        refine HFG.out.mono ?_
        rintro e w3 ⟨rfl, hR3, hF3⟩
        have HR3 := Lib.hid hR3
        have HF3 := Lib.hid hF3
        clear hR3 hF3
        have hky := rbytes_any HR3.out 16 (by omega)
        rw [← HS2.out, ← HKEY.out, ← HKN.out] at hky
        have HKY := Lib.hid hky
        clear hky
        go_wp2_with fail
        refine HKY.out.mono ?_
        rintro e w4 ⟨⟨kA, kc, rfl, bk, hbk, hO4⟩, hR4, hF4⟩
        have HF4 : Hid (Fr (fun k => k = g) wr w4) := Lib.hid (HF3.out.trans hF4)
        have HKB : Hid (Byt key) := Lib.hid (by rw [HKEY.out]; exact bytes_byt HR3.out.byt 16)
        have hng : ∀ k, k = g → ¬ IsT 5 wr k := fun k hk => by
          subst hk
          obtain ⟨Ar, cr, hbr, _⟩ := HJ.out.rd.st
          exact IsT.not_blk hbr (by decide)
        obtain ⟨w5, hw5⟩ : ∃ w5 : World, w5 = w4.alloc (.cells #[.slice kA kn kc, .slice none 0 0, .bool false] 41) := ⟨_, rfl⟩
        obtain ⟨b6, hb6⟩ : ∃ b6, b6 = w4.heap.size := ⟨_, rfl⟩
        have HN45 : Hid (New w4 w5) := Lib.hid (by rw [hw5]; exact New.al (New.refl _) _)
        have HB5 : Hid (Blk w5 b6 41 #[.slice kA kn kc, .slice none 0 0, .bool false]) := Lib.hid (by rw [hw5, hb6]; exact Blk.new _ _ _)
        have HF5 : Hid (Fr (fun k => k = g) wr w5) := Lib.hid (HF4.out.trans (HN45.out.toFr _))
        have HNG := Lib.hid hng
        have HB4S : Hid (b6 = w4.heap.size) := Lib.hid hb6
        have HRT : Hid (RdIn w5 g s2) := Lib.hid (hR4.new HN45.out)
        have HKT : Hid (RdT 5 w5 1 kA kn (u8s key)) := Lib.hid ((RdT.own hO4 rfl).new HN45.out)
        have HNT : Hid (New w w5) := Lib.hid (HJ.out.new.fr HF5.out (fun k hk => by have := HJ.out.gz; omega))
        have HOT : Hid (w5.ownsRow w.heap.size 41 3 (.slice A' m c') m (L.flatMap Ch.cells)) := Lib.hid (own_fr HJ.out.own HF5.out (fun k hk e => by
          obtain ⟨Ar, cr, hbr, _⟩ := HJ.out.rd.st
          subst e
          exact own_ne HJ.out.own hbr (by decide) hk))
        have HLT : Hid (∀ c ∈ L, c.InT w5) := Lib.hid (fun c hc => (HJ.out.el c hc).fr HF5.out HNG.out)
        have hgb : b6 ≠ g := by have := hR4.lt; omega
        clear hO4 hR4 hF4 hng hbk
        go_upto_region 6 with fail
        rw [← hw5, ← hb6]
        clear hw5 hb6
        have c0 : w5.cell? ⟨b6, 0, none⟩ = some (.slice kA kn kc) := HB5.out.cell 0
        have c2 : w5.cell? ⟨b6, 2, none⟩ = some (.bool false) := HB5.out.cell 2
        have hvl := rbytes_any HRT.out 16384 (by omega)
        rw [← HS3.out, ← HVAL.out, ← HVN.out] at hvl
        have HVL := Lib.hid hvl
        clear hvl
        go_wp2_with fail
        refine HVL.out.mono ?_
        rintro e w6 ⟨⟨vA, vc, rfl, bv, hbv, hO6⟩, hR6, hF6⟩
        have HF6 := Lib.hid hF6
        have HB6 : Hid (Blk w6 b6 41 #[.slice kA kn kc, .slice none 0 0, .bool false]) := Lib.hid (HB5.out.fr hF6 hgb)
        have f61 : w6.frozen? ⟨b6, 1, none⟩ = false := HB6.out.frozen 1
        have c61 : w6.cell? ⟨b6, 1, none⟩ = some (.slice none 0 0) := HB6.out.cell 1
        have HVB : Hid (Byt val) := Lib.hid (by rw [HVAL.out]; exact bytes_byt HRT.out.byt 16384)
        have HV16 : Hid (vn ≤ 16384) := Lib.hid (by rw [HVN.out, HVAL.out]; exact bytes_le s2 16384)
        have HR6 := Lib.hid hR6
        have HVT6 : Hid (RdT 5 w6 1 vA vn (u8s val)) := Lib.hid (RdT.own hO6 rfl)
        obtain ⟨w7, hw7⟩ : ∃ w7 : World, w7 = w6.setCell ⟨b6, 1, none⟩ (.slice vA vn vc) := ⟨_, rfl⟩
        have hF67 : Fr (fun k => k = b6) w6 w7 := by rw [hw7]; exact (Fr.refl (fun k => k = b6) w6).setCell (p := ⟨b6, 1, none⟩) (fun _ => rfl) _
        have hnb : ∀ k, k = b6 → ¬ IsT 5 w6 k := fun k hk => by subst hk; exact IsT.not_blk HB6.out (by decide)
        have hng5 : ∀ k, k = g → ¬ IsT 5 w5 k := fun k hk => by
          subst hk
          obtain ⟨Ar, cr, hbr, _⟩ := HRT.out.st
          exact IsT.not_blk hbr (by decide)
        have hob5 : ∀ k, (Value.slice A' m c').ownBlock = some k → ¬ k = b6 := fun k hk e => by
          have h1 := (own_lt HJ.out.own k hk).2
          have h2 := HF4.out.size
          have h3 := HB4S.out
          omega
        have HB7 : Hid (Blk w7 b6 41 #[.slice kA kn kc, .slice vA vn vc, .bool false]) := Lib.hid (by
          have := HB6.out.set 1 (.slice vA vn vc)
          rw [hw7]
          simpa using this)
        have HRT7 : Hid (RdIn w7 g s3) := Lib.hid (HR6.out.fr hF67 (fun e => hgb e.symm) hnb)
        have HKT7 : Hid (RdT 5 w7 1 kA kn (u8s key)) := Lib.hid ((HKT.out.fr HF6.out hng5).fr hF67 hnb)
        have HVT : Hid (RdT 5 w7 1 vA vn (u8s val)) := Lib.hid (HVT6.out.fr hF67 hnb)
        have HNT7 : Hid (New w w7) := Lib.hid ((HNT.out.fr HF6.out (fun k hk => by have := HJ.out.gz; omega)).fr hF67 (fun k hk => by have := HB4S.out; have := HF4.out.size; have := HJ.out.new.size; omega))
        have HOT7 : Hid (w7.ownsRow w.heap.size 41 3 (.slice A' m c') m (L.flatMap Ch.cells)) := Lib.hid (own_fr (own_fr HOT.out HF6.out (fun k hk e => by
          obtain ⟨Ar, cr, hbr, _⟩ := HRT.out.st
          subst e
          exact own_ne HOT.out hbr (by decide) hk)) hF67 hob5)
        have HLT7 : Hid (∀ c ∈ L, c.InT w7) := Lib.hid (fun c hc => ((HLT.out c hc).fr HF6.out hng5).fr hF67 hnb)
        clear HB5 HRT HKT HNT HOT HLT hF6 hO6 hR6 hbv
        go_upto_region 8 with fail
        rw [← hw7]
        clear hw7 hF67 hnb hng5 hob5 c0 c2 f61 c61
        have HBT := HB7
        have HRT := HRT7
        have HKT := HKT7
        have HNT := HNT7
        have HOT := HOT7
        have HLT := HLT7
        have c0 : w7.cell? ⟨b6, 0, none⟩ = some (.slice kA kn kc) := HB7.out.cell 0
        by_cases hk0 : kn = 0
        · subst hk0
          have hke : key = [] := List.eq_nil_of_length_eq_zero HKN.out.symm
          have HST : Hid (q = none) := Lib.hid (by
            have h1 := HPJ.out
            rw [hNj] at h1
            unfold prs at h1
            rw [HSTP.out, if_pos hke] at h1
            rw [HQ.out, h1]
            refine if_neg (fun h => ?_)
            have h2 := h.1
            dsimp only at h2
            revert h2
            unfold Rs.bad Rs.fin
            split <;> simp_all)
          have HFL := Lib.hid (rfail_any HRT.out 2 (by omega))
          have hfin : (s3.bad 2).fin ≠ 0 := by
            unfold Rs.bad Rs.fin
            split <;> simp_all
          have HFIN := Lib.hid hfin
          clear hfin hke HSTP hNj
          go_wp2_with fail
          refine HFL.out.mono ?_
          rintro e w7 ⟨rfl, hR7, hF7⟩
          have HN7 : Hid (New w w7) := Lib.hid (HNT.out.fr hF7 (fun k hk => by have := HJ.out.gz; omega))
          have HE7 := Lib.hid (rend_any hR7)
          clear hR7 hF7
          go_wp2_with fail
          refine HE7.out.mono ?_
          rintro e w8 ⟨rfl, rfl⟩
          rw [errV_pos HFIN.out]
          go_wp2_with fail
          go_ret2
          exact ⟨.inl ⟨HST.out, rfl⟩, HN7.out⟩
        · have hkne : key ≠ [] := fun e => hk0 (by have := HKN.out; rw [e] at this; simpa using this)
          have hkp : (0 : Int) < (kn : Int) := by omega
          have hkz : ((kn : Int) == 0) = false := by simp; omega
          have HST : Hid (r = prs (N - (j + 1)) s3 ((L ++ [(⟨⟨kA, kn, kc, key⟩, ⟨vA, vn, vc, val⟩, false⟩ : Ch)]).map pcOf)) := Lib.hid (by
            have h1 := HPJ.out
            rw [hNj] at h1
            unfold prs at h1
            rw [HSTP.out, if_neg hkne] at h1
            rw [h1, List.map_append]
            rfl)
          have hdk : decide ((0 : Int) = (kn : Int)) = false := decide_eq_false (by omega)
          clear hkne HSTP hNj
          have e0 : w7.cell? ⟨b6, 0, none⟩ = some (.slice kA kn kc) := HBT.out.cell 0
          have e1 : w7.cell? ⟨b6, 1, none⟩ = some (.slice vA vn vc) := HBT.out.cell 1
          have e2 : w7.cell? ⟨b6, 2, none⟩ = some (.bool false) := HBT.out.cell 2
          go_wp2_with (first
            | ((with_reducible refine atOpS ⟨some 34, .buildSlice _ _ _, _, _, _, _⟩ ?_); refine wpList_bs1 elC (by decide) rfl (.tmp 33) rfl #[.slice kA kn kc, .slice vA vn vc, .bool false] rfl rfl ?_)
            | (at_builtin; refine atOpS ⟨some 35, _, _, _, _, _⟩ ?_; refine stopHere ?_))
          refine ⟨?_⟩
          refine wpList_app (o := ⟨some 35, _, _, _, _, _⟩) elC _ rfl (.tmp 32) (.tmp 34) rfl w.heap.size (.slice A' m c') m (L.flatMap Ch.cells) rfl (New.own (New.al (New.refl _) _) HOT.out) _ 1 1 [.slice kA kn kc, .slice vA vn vc, .bool false] rfl (Rd.ofBlk (p := fun _ => True) (Blk.new _ 41 #[.slice kA kn kc, .slice vA vn vc, .bool false]) 3 1 rfl trivial) (cells_one ⟨⟨kA, kn, kc, key⟩, ⟨vA, vn, vc, val⟩, false⟩) (by unfold maxLen; omega) (by omega) (by have := HNT.out.size; simp; omega) ?_
          intro A8 d8 w8 hO8 hF8 hA8
          have HN8 : Hid (New w w8) := Lib.hid ((New.al HNT.out _).fr hF8 (fun k hk => (own_lt HOT.out k hk).1))
          have hF8t := ((New.al (New.refl w7) (.cells #[.slice kA kn kc, .slice vA vn vc, .bool false] 41)).toFr (fun k => (Value.slice A' m c').ownBlock = some k)).trans hF8
          have hnB : ∀ k, (Value.slice A' m c').ownBlock = some k → ¬ IsT 5 w7 k := fun k hk => IsT.not_own HOT.out (by decide) hk
          have HI8 : Hid (PrI w g s3 A8 (m + 1) d8 (L ++ [⟨⟨kA, kn, kc, key⟩, ⟨vA, vn, vc, val⟩, false⟩]) w8) := Lib.hid ⟨HN8.out, HJ.out.gz, HRT.out.fr hF8t (fun hk => by
              obtain ⟨Ar, cr, hbr, _⟩ := HRT.out.st
              exact own_ne HOT.out hbr (by decide) hk) hnB, by rw [List.flatMap_append]; simpa [Ch.cells] using hO8, fun c hc => by
              rcases List.mem_append.1 hc with hc | hc
              · exact (HLT.out c hc).fr hF8t hnB
              · rw [List.mem_singleton.1 hc]
                exact Ch.InT.fr (w := w7) (c := ⟨⟨kA, kn, kc, key⟩, ⟨vA, vn, vc, val⟩, false⟩) ⟨HKT.out, HKB.out, HVT.out, HVB.out⟩ hF8t hnB, fun c hc => by
              rcases List.mem_append.1 hc with hc | hc
              · exact HJ.out.sz c hc
              · rw [List.mem_singleton.1 hc]
                exact ⟨HK16.out, HV16.out⟩⟩
          clear hO8 hF8 hA8 hF8t hnB
          go_wp2_with fail
          go_roundw
          case rel => exact ⟨j + 1, m + 1, _, A8, d8, _, by omega, by omega, by go_num, rfl, HI8, HST⟩
          case measure => simp [intOf]; omega
    · obtain rfl : j = N := by omega
      have hpj := HPJ.out
      rw [Nat.sub_self] at hpj
      have hr1 : r.1 = L.map pcOf := by rw [hpj]; rfl
      have hr2 : r.2 = s := by rw [hpj]; rfl
      have hq := HQ.out
      rw [hr1, hr2, pcsOk_of HJ.out.el] at hq
      have HQ2 := Lib.hid hq
      have HE := Lib.hid (rend_any HJ.out.rd)
      have hLm : L.length = m := by have := HJ.out.own.1; rw [cells_len] at this; omega
      have HLM := Lib.hid hLm
      clear hpj hr1 hr2 hq hLm HPJ HRR HQ
      go_wp2_with fail
      refine HE.out.mono ?_
      rintro e w3 ⟨rfl, rfl⟩
      by_cases hf : s.fin = 0
      · rw [hf, errV_zero]
        have hLm := HLM.out
        have HC := Lib.hid (rights_any A' m c' L wr (Rd.own HJ.out.own rfl) hLm (by omega) (fun c hc => by have := HJ.out.sz c hc; unfold maxLen; omega))
        have HRT : Hid (RTb wr A' m L) := Lib.hid ⟨rd_szs (Rd.own HJ.out.own rfl), hLm, fun c hc => (HJ.out.el c hc).in_⟩
        clear hLm
        go_wp2_with fail
        refine HC.out.mono ?_
        rintro e w4 ⟨rfl, hN4⟩
        have HN4 := Lib.hid hN4
        clear hN4 HC
        by_cases hok : chsOk L = true
        · rw [hok]
          have HQ3 : Hid (q = some (L.map pcOf)) := Lib.hid (by rw [HQ2.out, if_pos ⟨hf, hok⟩])
          clear HQ2 hok hf
          go_wp2_with fail
          go_ret2
          exact ⟨.inr ⟨A', m, c', L, HQ3.out, rfl, HRT.out.new HN4.out⟩, HJ.out.new.tr HN4.out⟩
        · have hok : chsOk L = false := by simpa using hok
          rw [hok]
          have HQ3 : Hid (q = none) := Lib.hid (by rw [HQ2.out, if_neg (fun h => by rw [hok] at h; cases h.2)])
          clear HQ2 hok hf
          go_wp2_with fail
          go_ret2
          exact ⟨.inl ⟨HQ3.out, rfl⟩, HJ.out.new.tr HN4.out⟩
      · rw [errV_pos hf]
        have HQ3 : Hid (q = none) := Lib.hid (by rw [HQ2.out, if_neg (fun h => hf h.1)])
        clear HQ2
        go_wp2_with fail
        go_ret2
        exact ⟨.inl ⟨HQ3.out, rfl⟩, HJ.out.new⟩
end Go.Proofs.Ytfhinmjpokollaa
