/- Texts of one proof, one behind the other: KvD, KvT, KvX, KvBy. No condition but each one's own. -/
import Derived.Test.YtfhinmjpokollaaKvBytesM6
import Derived.Lib.SlBytesConst
import Derived.Test.YtfhinmjpokollaaKvBytesM13
import Derived.Test.YtfhinmjpokollaaKvBytesM12
/- The statements' fixed fact. No condition. -/
namespace Go.Proofs.Ytfhinmjpokollaa
set_option linter.unusedVariables false
set_option linter.unusedSimpArgs false
set_option linter.constructorNameAsVariable false
open Go.RowKit Go.Maps Go.Sort

/-- A literal's bytes. -/
theorem lit_rd {P : Nat → Prop} {w W : World} {x : Int} (hN : New (w.alloc (.cells #[.int .u8 x] 5 (1, 2))) W) (hP : P w.heap.size) : Rd P W 1 (some ⟨w.heap.size, 0, none⟩) 1 (u8s [x]) := by
  have hb : (w.alloc (.cells #[.int .u8 x] 5 (1, 2))).heap[w.heap.size]? = some (.cells #[.int .u8 x] 5 (1, 2)) := by
    show (w.heap.push _)[w.heap.size]? = _
    simp
  have hW : W.heap[w.heap.size]? = some (.cells #[.int .u8 x] 5 (1, 2)) := (hN.block _ (by simp)).trans hb
  refine ⟨rfl, fun _ => ⟨_, rfl, hP, (Array.getElem?_eq_some_iff.1 hW).1, fun j u hu => ?_⟩⟩
  have : j = 0 := by
    have := (List.getElem?_eq_some_iff.1 hu).1
    simp [u8s] at this
    omega
  subst this
  simp [u8s] at hu
  subst hu
  simp [World.cell?, Addr.add, hW]
set_option maxHeartbeats 8000000 in
set_option maxRecDepth 100000 in
theorem alive_any (w : World) : Calls Try.prog 8 #[] w fun e w' => e = .returned (.bool true) ∧ New w w' := by
  have kc := fun (w : World) (C : Array Value) (n c : Nat) => Lib.run_convert_bytes_const (P := Try.prog) w 39 5 C n c Try.underlying39 Try.underlying5
  go_enter Try.func8, Try.ntmps8
  go_wp2_with fail
  refine (new_any w.heap.size w (Nat.le_refl _)).mono ?_
  rintro e w1 ⟨g, b, rfl, hT, hN1, hg, hb⟩
  have HT := Lib.hid hT
  have HN1 := Lib.hid hN1
  have HG := Lib.hid hg
  have HB := Lib.hid hb
  clear hT hN1 hg hb
  have kc2 : ∀ (w : World) (o : Obj) (C : Array Value) (n c : Nat), (convert 39 39 (.slice (some ⟨w.heap.size + 1, 0, none⟩) n c)).run Try.prog ((w.alloc o).alloc (.cells C 5)) = .ok (.slice (some ⟨w.heap.size + 1, 0, none⟩) n c) ((w.alloc o).alloc (.cells C 5 (C.size, C.size + 1))) := fun w o C n c => by
    have := kc (w.alloc o) C n c
    simpa using this
  go_wp2_with fail
  obtain ⟨w2, hw2⟩ : ∃ w2 : World, w2 = ((w1.alloc (.cells #[.int .u8 97] 5 (1, 2))).alloc (.cells #[.int .u8 49] 5 (1, 2))).alloc (.cells #[.slice (some ⟨w1.heap.size, 0, none⟩) 1 1, .slice (some ⟨w1.heap.size + 1, 0, none⟩) 1 1, .bool false] 41) := ⟨_, rfl⟩
  have HB1 : Hid (b < w1.heap.size) := Lib.hid HT.out.blt
  have HN12 : Hid (New w1 w2) := Lib.hid (by rw [hw2]; exact New.al (New.al (New.al (New.refl w1) _) _) _)
  have HA2 : Hid (Rd (fun k => k ≠ b) w2 1 (some ⟨w1.heap.size, 0, none⟩) 1 (u8s [97])) := Lib.hid (lit_rd (by rw [hw2]; exact New.al (New.al (New.refl _) _) _) (by have := HB1.out; omega))
  have HB2 : Hid (Rd (fun k => k ≠ b) w2 1 (some ⟨w1.heap.size + 1, 0, none⟩) 1 (u8s [49])) := Lib.hid (by
    have := lit_rd (P := fun k => k ≠ b) (x := 49) (w := w1.alloc (.cells #[.int .u8 97] 5 (1, 2))) (W := w2) (by rw [hw2]; exact New.al (New.refl _) _) (by have := HB1.out; simp; omega)
    simpa using this)
  have HC2 : Hid (Rd (fun k => k ≠ b) w2 3 (some ⟨w1.heap.size + 1 + 1, 0, none⟩) 1 [.slice (some ⟨w1.heap.size, 0, none⟩) 1 1, .slice (some ⟨w1.heap.size + 1, 0, none⟩) 1 1, .bool false]) := Lib.hid (by
    have h1 : Blk w2 (w1.heap.size + 1 + 1) 41 #[.slice (some ⟨w1.heap.size, 0, none⟩) 1 1, .slice (some ⟨w1.heap.size + 1, 0, none⟩) 1 1, .bool false] := by rw [hw2]; exact Blk.new' _ _ _ (by simp)
    exact Rd.ofBlk h1 3 1 rfl (by have := HB1.out; omega))
  rw [← hw2]
  clear hw2
  refine (apply_any (HT.out.new HN12.out) (some ⟨w1.heap.size + 1 + 1, 0, none⟩) 1 1 [⟨⟨some ⟨w1.heap.size, 0, none⟩, 1, 1, [97]⟩, ⟨some ⟨w1.heap.size + 1, 0, none⟩, 1, 1, [49]⟩, false⟩] HC2.out rfl (fun c hc => by
    rw [List.mem_singleton] at hc
    subst hc
    exact ⟨⟨HA2.out, fun x hx => by simp at hx; omega⟩, ⟨HB2.out, fun x hx => by simp at hx; omega⟩⟩) (fun k hk => hk) (by simp [chsOk, chOk]) (by omega)).mono ?_
  rintro e w3 ⟨rfl, X3, E3, hT3, hc3, hF3, -⟩
  have HL3 : Hid (E3.length = 1) := Lib.hid (by rw [← cont_len, hc3]; rfl)
  have HC3 : Hid (cont E3 = [([97], [49])]) := Lib.hid (by rw [hc3]; rfl)
  have HT3 := Lib.hid hT3
  have HN3 : Hid (New w w3) := Lib.hid ((HN1.out.tr HN12.out).fr hF3 (fun k hk => by have := HB.out; omega))
  have HA3 : Hid (Rd (fun k => k ≠ b) w3 1 (some ⟨w1.heap.size, 0, none⟩) 1 (u8s [97])) := Lib.hid (HA2.out.fr hF3 (fun k hk => hk))
  have HZ3 : Hid (b < w3.heap.size) := Lib.hid hT3.blt
  clear hT3 hc3 hF3 HA2 HB2 HC2 HN12 HN1
  go_wp2_with fail
  refine (len_any HT3.out (by omega) (by rw [HL3.out]; omega)).mono ?_
  rintro e w4 ⟨rfl, hN4⟩
  rw [HL3.out]
  have HT4 := Lib.hid (HT3.out.new hN4)
  have HA4 := Lib.hid (hN4.rd HA3.out)
  have HN4 : Hid (New w w4) := Lib.hid (HN3.out.tr hN4)
  clear hN4 HT3 HA3 HN3
  go_wp2_with fail
  obtain ⟨w5, hw5⟩ : ∃ w5 : World, w5 = w4.alloc (.cells #[.slice (some ⟨w1.heap.size, 0, none⟩) 1 1, .slice none 0 0, .bool true] 41) := ⟨_, rfl⟩
  have HN45 : Hid (New w4 w5) := Lib.hid (by rw [hw5]; exact New.al (New.refl w4) _)
  have HC5 : Hid (Rd (fun k => k ≠ b) w5 3 (some ⟨w4.heap.size, 0, none⟩) 1 [.slice (some ⟨w1.heap.size, 0, none⟩) 1 1, .slice none 0 0, .bool true]) := Lib.hid (by
    have h1 : Blk w5 w4.heap.size 41 #[.slice (some ⟨w1.heap.size, 0, none⟩) 1 1, .slice none 0 0, .bool true] := by rw [hw5]; exact Blk.new _ _ _
    exact Rd.ofBlk h1 3 1 rfl (by have := HT4.out.blt; omega))
  rw [← hw5]
  clear hw5
  refine (apply_any (HT4.out.new HN45.out) (some ⟨w4.heap.size, 0, none⟩) 1 1 [⟨⟨some ⟨w1.heap.size, 0, none⟩, 1, 1, [97]⟩, ⟨none, 0, 0, []⟩, true⟩] HC5.out rfl (fun c hc => by
    rw [List.mem_singleton] at hc
    subst hc
    exact ⟨⟨HN45.out.rd HA4.out, fun x hx => by simp at hx; omega⟩, ⟨⟨rfl, fun h => absurd h (by simp)⟩, fun x hx => by cases hx⟩⟩) (fun k hk => hk) (by simp [chsOk, chOk]) (by omega)).mono ?_
  rintro e w6 ⟨rfl, X6, E6, hT6, hc6, hF6, -⟩
  have HL6 : Hid (E6.length = 0) := Lib.hid (by rw [← cont_len, hc6, HC3.out]; rfl)
  have HT6 := Lib.hid hT6
  have HN6 : Hid (New w w6) := Lib.hid ((HN4.out.tr HN45.out).fr hF6 (fun k hk => by have := HB.out; omega))
  clear hT6 hc6 hF6 HT4 HA4 HC5 HN45 HN4
  go_wp2_with fail
  refine (len_any HT6.out (by omega) (by rw [HL6.out]; omega)).mono ?_
  rintro e w7 ⟨rfl, hN7⟩
  rw [HL6.out]
  have HN7 := Lib.hid (HN6.out.tr hN7)
  clear hN7 HT6 HN6
  go_wp2_with fail
  go_ret
  exact ⟨rfl, HN7.out⟩
end Go.Proofs.Ytfhinmjpokollaa
/- KvPlays, as its statement's row wants it. No condition but the bound on what is read. -/
namespace Go.Proofs.Ytfhinmjpokollaa
set_option linter.unusedVariables false
set_option linter.unusedSimpArgs false
set_option linter.constructorNameAsVariable false
open Go.RowKit Go.Maps Go.Sort

theorem rd_not_map {q : Nat → Prop} {w : World} {s n : Nat} {A : Option Addr} {xs : List Value} {P : Program} {kt : TypeId} {b m : Nat} {f : Lit → Option Value} (h : Rd q w s A n xs) (hM : MapAt w P kt b m f) (hs : 0 < s) : Rd (fun k => q k ∧ k ≠ b) w s A n xs := by
  refine ⟨h.1, fun hn => ?_⟩
  obtain ⟨ad, e, hp, hb, hc⟩ := h.2 hn
  refine ⟨ad, e, ⟨hp, fun hab => ?_⟩, hb, hc⟩
  have hl : 0 < xs.length := by rw [h.1]; exact Nat.mul_pos hn hs
  have h0 := hc 0 _ (List.getElem?_eq_getElem hl)
  obtain ⟨D, ⟨es, clock, hx, _⟩, _⟩ := hM
  have hx' : w.heap[(ad.add 0).block]? = some (.map es clock) := by rw [add_block, hab]; exact hx
  simp [World.cell?, hx'] at h0
theorem RTb.frb {w w' : World} {A : Option Addr} {n : Nat} {L : List Ch} {P : Program} {kt : TypeId} {b m : Nat} {f : Lit → Option Value} (h : RTb w A n L) (hM : MapAt w P kt b m f) (hF : Fr (fun k => k = b) w w') : RTb w' A n L := by
  have hr : ∀ {s n : Nat} {A : Option Addr} {xs : List Value}, 0 < s → Rd (fun k => k < w.heap.size) w s A n xs → Rd (fun k => k < w'.heap.size) w' s A n xs := fun hs h =>
    rd_szs ((rd_not_map h hM hs).fr hF (fun k hk he => hk.2 he))
  exact ⟨hr (by decide) h.rd, h.len, fun c hc => ⟨⟨hr (by decide) (h.el c hc).k.rd, (h.el c hc).k.byt⟩, ⟨hr (by decide) (h.el c hc).v.rd, (h.el c hc).v.byt⟩⟩⟩
theorem TbIn.mapAt {X : Nat → Prop} {w : World} {base g b m : Nat} {E : Tab} (h : TbIn X w base g b m E) : ∃ f, MapAt w Try.prog 9 b m f := by
  obtain ⟨f, hm, _⟩ := h.map
  exact ⟨f, hm⟩
/-- What both find. -/
theorem both_find {w : World} {A : Option Addr} {n : Nat} {T : List Ch} {E : Tab} {k : List Int} (hT : RTb w A n T) (hc : cl T = sct (cont E)) (hK : Kn (cont E)) :
    ∃ (B : Option Addr) (m d : Nat), oval (rfind T k) = .slice B m d ∧ (rfind T k).isSome = (E.lookup k).isSome ∧ Rd (fun b => b < w.heap.size) w 1 B m (u8s (tval E k).xs) ∧ Byt (tval E k).xs := by
  have h := find_same hc hK k
  cases hr : rfind T k with
  | none =>
    rw [hr] at h
    cases hl : E.lookup k with
    | some v => rw [hl] at h; cases h
    | none =>
      unfold tval
      rw [hl]
      exact ⟨none, 0, 0, rfl, rfl, Rd.nil, fun x hx => by cases hx⟩
  | some v =>
    rw [hr] at h
    cases hl : E.lookup k with
    | none => rw [hl] at h; cases h
    | some u =>
      rw [hl] at h
      injection h with h
      unfold tval
      rw [hl]
      unfold rfind at hr
      obtain ⟨c, hc, hcv⟩ := Option.map_eq_some_iff.1 hr
      have hm := hT.el c (List.mem_of_find?_eq_some hc)
      subst hcv
      refine ⟨c.v.A, c.v.n, c.v.c, rfl, rfl, ?_, ?_⟩
      · show Rd _ w 1 c.v.A c.v.n (u8s u.xs)
        rw [← h]
        exact hm.v.rd
      · show Byt u.xs
        rw [← h]
        exact hm.v.byt
theorem kn_tb {X : Nat → Prop} {w : World} {base g b m : Nat} {E : Tab} (h : TbIn X w base g b m E) : Kn (cont E) := kn_cont h.nd (fun e he => (h.el e he).1)
/-- What stands behind some batches. -/
structure PlI (w : World) (g b j : Nat) (A : Option Addr) (n : Nat) (wr : World) : Prop where
  new : New w wr
  gb : w.heap.size ≤ g ∧ w.heap.size ≤ b
  st : ∃ (X : Nat → Prop) (mm : Nat) (E : Tab) (T : List Ch), TbIn X wr w.heap.size g b mm E ∧ RTb wr A n T ∧ (∀ c ∈ T, c.k.n ≤ 16 ∧ c.v.n ≤ 16384) ∧ cl T = sct (cont E) ∧ mm ≤ 600 * j ∧ E.length ≤ 600 * j
theorem doCs_le (T : CT) (L : List Ch) : (doCs T L).length ≤ T.length + L.length := by
  unfold doCs
  induction L generalizing T with
  | nil => simp
  | cons c L ih =>
    rw [List.foldl_cons, List.length_cons]
    have := ih (doC T c)
    have := doC_le T c
    omega
theorem rdo_mem (C : List Ch) (L : List Ch) : ∀ x ∈ rdo L C, x ∈ L ∨ x ∈ C := by
  unfold rdo
  induction C generalizing L with
  | nil => intro x hx; exact .inl hx
  | cons c C ih =>
    intro x hx
    rw [List.foldl_cons] at hx
    rcases ih _ x hx with h | h
    · rcases rapp_mem geS c L x h with h | h
      · exact .inl h
      · exact .inr (by rw [h]; exact List.mem_cons_self ..)
    · exact .inr (List.mem_cons_of_mem _ h)
set_option maxHeartbeats 8000000 in
set_option maxRecDepth 100000 in
theorem plays_law {v : Value} {w : World} (h : ∃ (A : Option Addr) (n c : Nat) (L : List Sl), v = .slice A n c ∧ n ≤ maxLen ∧ L.length = n ∧ Rd (fun b => b < w.heap.size) w 1 A n (L.flatMap Sl.cells) ∧ ∀ a ∈ L, a.Good w) :
    Calls Try.prog 3 #[v] w fun e w' => e = .returned (.bool true) ∧ Below w.heap.size w w' := by
  obtain ⟨A, n, c, L, rfl, hn, hL, hR, hG⟩ := h
  have HL := Lib.hid hL
  have HR := Lib.hid hR
  have HG := Lib.hid hG
  unfold maxLen at hn
  clear hL hR hG
  go_enter Try.func3, Try.ntmps3
  go_wp2_with fail
  refine (alive_any w).mono ?_
  rintro e w0 ⟨rfl, hN0⟩
  have HN0 := Lib.hid hN0
  clear hN0
  by_cases h20 : 20 < n
  · go_wp2_with fail
    go_ret
    exact ⟨rfl, HN0.out⟩
  go_wp2_with fail
  refine (new_any w.heap.size w0 HN0.out.size).mono ?_
  rintro e w1 ⟨g, b, rfl, hT1, hN1, hg1, hb1⟩
  have HP : Hid (PlI w g b 0 none 0 w1) := Lib.hid ⟨HN0.out.tr hN1, ⟨Nat.le_trans HN0.out.size hg1, Nat.le_trans HN0.out.size hb1⟩, ⟨_, _, _, _, hT1, RTb.nil _, (fun c h => nomatch h), by simp [cl, sct, cont], Nat.zero_le _, Nat.zero_le _⟩⟩
  clear hT1 hN1 hg1 hb1 HN0
  go_wp2_with fail
  go_loopw [4, 24] (fun s i wr => ∃ (j n' : Nat) (A' : Option Addr) (c' : Nat), j ≤ n ∧ i = .int .i64 j ∧ s = .slice A' n' c' ∧ Hid (PlI w g b j A' n' wr)) (fun s i _ => n - (intOf i).toNat)
  case atStart => exact ⟨0, 0, none, 0, Nat.zero_le _, rfl, rfl, HP⟩
  case round =>
    obtain ⟨j, n', A', c', hj, rfl, rfl, HI⟩ := hrel
    clear HP
    obtain ⟨X, mm, E, T, hTB, hRT, hsm, hct, hmm, hE⟩ := HI.out.st
    have HTB := Lib.hid hTB
    have HRT := Lib.hid hRT
    have HSM := Lib.hid hsm
    have HCT := Lib.hid hct
    clear hTB hRT hsm hct
    by_cases hlt : j < n
    · obtain ⟨gA, o, hl, rfl, -, -, hrg⟩ := rd_row (size := 1) (f := Sl.cells) (L := L) (fun _ => rfl) (by omega) (HI.out.new.rd HR.out) hlt
      rw [Nat.mul_one] at hrg
      have c0 : wr.cell? ⟨gA, o + j, none⟩ = some (.slice L[j].A L[j].n L[j].c) := hrg 0 _ rfl
      have hgood := HG.out L[j] (List.getElem_mem _)
      generalize L[j] = x at c0 hgood
      obtain ⟨xA, xn, xc, xL⟩ := x
      dsimp only at c0
      have HGD := Lib.hid hgood
      have HGW := Lib.hid (hgood.new HI.out.new)
      have hj0 : (0 : Int) ≤ (j : Int) := by omega
      have hjn : (j : Int) < (n : Int) := by omega
      have hxm : xn ≤ 9223372036854775807 := by have := hgood.nn; unfold maxLen at this; exact this
      clear hrg hgood hl
      go_wp2_with fail
      refine (long_any xA xn xc xL wr HGW.out.tb HGD.out.nn (fun c hc => ⟨(HGD.out.gd c hc).kn, (HGD.out.gd c hc).vn⟩)).mono ?_
      rintro e w2 ⟨⟨bl, rfl, hbl⟩, hN2⟩
      have HN2 := Lib.hid hN2
      have HBL := Lib.hid hbl
      clear hN2 hbl
      cases bl
      rotate_left
      · go_wp2_with fail
        go_ret
        exact ⟨rfl, HI.out.new.tr HN2.out⟩
      by_cases h4 : 40 < xn ∧ xn ≤ 600
      · obtain ⟨h4, h6⟩ := h4
        have hd4 : decide ((40 : Int) < (xn : Int)) = true := decide_eq_true (by omega)
        have hd6 : decide ((xn : Int) ≤ 600) = true := decide_eq_true (by omega)
        go_wp2_with fail
        go_ret
        exact ⟨rfl, HI.out.new.tr HN2.out⟩
      have hbs := HBL.out rfl
      have hx7 : xn ≤ 700 := by have := hbs.1; rw [HGD.out.tb.len] at this; exact this
      have HSZ : Hid (∀ c ∈ xL, c.k.n ≤ 20000 ∧ c.v.n ≤ 20000) := Lib.hid (fun c hc => by have := chSum_mem hc; have := hbs.2; omega)
      clear hbs HBL
      have hgo : (40 < xn → ¬ xn ≤ 600) := fun h1 h2 => h4 ⟨h1, h2⟩
      clear h4
      have hxl : xL.length = xn := HGD.out.tb.len
      by_cases hok : chsOk xL = true
      · have hsp := chsOk_spec hok
        have h40 : xn ≤ 40 := by rw [hxl] at hsp; omega
        have HSP := Lib.hid hsp
        have HOK := Lib.hid hok
        have HXL := Lib.hid hxl
        clear hgo hsp hok hxl
        have hd4 : decide ((40 : Int) < (xn : Int)) = false := decide_eq_false (by omega)
        go_wp2_with fail
        refine (copy_any (HTB.out.new HN2.out) (Nat.le_trans HI.out.new.size HN2.out.size)).mono ?_
        rintro e w3 ⟨g3, b3, rfl, hT3, hN3, hg3, hb3⟩
        have HN3 : Hid (New wr w3) := Lib.hid (HN2.out.tr hN3)
        clear hT3 hN3 hg3 hb3
        go_wp2_with fail
        refine (apply_any (P := fun k => k < w.heap.size) (HTB.out.new HN3.out) xA xn xc xL ((HI.out.new.tr HN3.out).rd HGD.out.tb.rd) HXL.out (fun c hc => (HGD.out.tb.el c hc).new (HI.out.new.tr HN3.out)) (fun k hk => by have := HI.out.gb.2; omega) HOK.out (by omega)).mono ?_
        rintro e w4 ⟨rfl, X4, E4, hT4, hc4, hF4, -⟩
        have HT4 := Lib.hid hT4
        have HC4 := Lib.hid hc4
        have HR4 : Hid (RTb w4 A' n' T) := Lib.hid (by
          obtain ⟨f, hM⟩ := (HTB.out.new HN3.out).mapAt
          exact (HRT.out.new HN3.out).frb hM hF4)
        have HN4 : Hid (New w w4) := Lib.hid ((HI.out.new.tr HN3.out).fr hF4 (fun k hk => by have := HI.out.gb.2; omega))
        clear hT4 hc4 hF4
        go_wp2_with fail
        refine (doc_any xA xn xc xL w4 (HN4.out.rd HGD.out.tb.rd) HXL.out (by omega)).mono ?_
        rintro e w5 ⟨⟨A5, c5, rfl, hO5⟩, hN5⟩
        have HD5 : Hid (RTb w5 A5 xn xL) := Lib.hid ⟨rd_szs (Rd.own hO5 rfl), HXL.out, fun c hc => Ch.In.szs ((HGD.out.tb.el c hc).new (HN4.out.tr hN5))⟩
        have HN5 := Lib.hid hN5
        clear hO5 hN5
        go_wp2_with fail
        refine (rright_any A5 xn c5 xL w5 HD5.out.rd HXL.out (by omega) (fun c hc => by have := HSZ.out c hc; unfold maxLen; omega)).mono ?_
        rintro e w5' ⟨rfl, rfl⟩
        rw [HOK.out]
        go_wp2_with fail
        have hn' : n' ≤ 600 * j := by
          have := congrArg List.length HCT.out
          unfold cl at this
          rw [List.length_map, (sct_perm _).length_eq, cont_len, HRT.out.len] at this
          omega
        refine (rdo_any A' n' c' T A5 xn c5 xL w5 (HR4.out.new HN5.out) HD5.out (by omega)).mono ?_
        rintro e w6 ⟨⟨A6, n6, c6, rfl, hR6⟩, hN6⟩
        have HR6 := Lib.hid hR6
        have HN6 : Hid (New w4 w6) := Lib.hid (HN5.out.tr hN6)
        clear hR6 hN6
        go_wp2_with fail
        refine (rights_any xA xn xc xL w6 ((HN4.out.tr HN6.out).rd HGD.out.tb.rd) HXL.out (by omega) (fun c hc => by have := HSZ.out c hc; unfold maxLen; omega)).mono ?_
        rintro e w7 ⟨rfl, hN7⟩
        rw [HOK.out]
        have hsct := rdo_sct (L := T) (T := cont E) xL HCT.out (kn_tb HTB.out) (fun c hc => (HGD.out.tb.el c hc).k.byt)
        rw [← HC4.out] at hsct
        have HSCT := Lib.hid hsct
        have HT7 : Hid (TbIn X4 w7 w.heap.size g b (mm + xn) E4) := Lib.hid (HT4.out.new (HN6.out.tr hN7))
        have HR7 : Hid (RTb w7 A6 n6 (rdo T xL)) := Lib.hid (HR6.out.new hN7)
        have HN7 : Hid (New w w7) := Lib.hid (HN4.out.tr (HN6.out.tr hN7))
        have HG7 := Lib.hid (HGD.out.new HN7.out)
        have hn6 : n6 ≤ 600 * j + xn := by
          have h1 := HR7.out.len
          have h2 := rdo_len T xL
          rw [HRT.out.len, HXL.out] at h2
          omega
        have HSM7 : Hid (∀ c ∈ rdo T xL, c.k.n ≤ 16 ∧ c.v.n ≤ 16384) := Lib.hid (fun c hc => by
          rcases rdo_mem xL T c hc with h | h
          · exact HSM.out c h
          · have := HSP.out.2.2 c h; omega)
        have hE4 : E4.length ≤ 600 * j + xn := by
          have h1 := congrArg List.length HC4.out
          have h2 := doCs_le (cont E) xL
          rw [cont_len] at h1 h2
          rw [HXL.out] at h2
          omega
        have HPN : Hid (PlI w g b (j + 1) A6 n6 w7) := Lib.hid ⟨HN7.out, HI.out.gb, ⟨X4, mm + xn, E4, rdo T xL, HT7.out, HR7.out, HSM7.out, HSCT.out.1, by omega, by omega⟩⟩
        clear hN7 hsct
        go_wp2_with fail
        go_loopw [75] (fun i wr => ∃ (k : Nat), k ≤ xn ∧ i = .int .i64 k ∧ Hid (New w7 wr)) (fun i _ => xn - (intOf i).toNat)
        case atStart => exact ⟨0, Nat.zero_le _, rfl, Lib.hid (New.refl _)⟩
        case round =>
          obtain ⟨k, hk, rfl, HNr⟩ := hrel
          by_cases hkl : k < xn
          · as_aux_lemma =>
              obtain ⟨gC, oC, hlC, rfl, -, -, hrC⟩ := rd_row (f := Ch.cells) (L := xL) (fun _ => rfl) (by omega) (HNr.out.rd HG7.out.tb.rd) hkl
              have v0 : wr.cell? ⟨gC, oC + k * 3, none⟩ = some (.slice xL[k].k.A xL[k].k.n xL[k].k.c) := hrC 0 _ rfl
              have v1 : wr.cell? ⟨gC, oC + k * 3 + 1, none⟩ = some (.slice xL[k].v.A xL[k].v.n xL[k].v.c) := hrC 1 _ rfl
              have v2 : wr.cell? ⟨gC, oC + k * 3 + 2, none⟩ = some (.bool xL[k].d) := hrC 2 _ rfl
              have hin := (HG7.out.tb.el xL[k] (List.getElem_mem _)).new HNr.out
              have hkn := (HSZ.out xL[k] (List.getElem_mem _)).1
              generalize xL[k] = y at v0 v1 v2 hin hkn
              obtain ⟨⟨kA, kn, kc, ks⟩, ⟨vA, vn, vc, vs⟩, dd⟩ := y
              dsimp only at v0 v1 v2 hkn
              obtain ⟨wa, hwa⟩ : ∃ wa : World, wa = wr.alloc (.cells #[.slice kA kn kc, .slice vA vn vc, .bool dd] 41) := ⟨_, rfl⟩
              have HNa : Hid (New wr wa) := Lib.hid (by rw [hwa]; exact New.al (New.refl _) _)
              have HBa : Hid (Blk wa wr.heap.size 41 #[.slice kA kn kc, .slice vA vn vc, .bool dd]) := Lib.hid (by rw [hwa]; exact Blk.new _ _ _)
              have HIN := Lib.hid hin
              have hk0 : (0 : Int) ≤ (k : Int) := by omega
              have hkn2 : (k : Int) < (xn : Int) := by omega
              obtain ⟨B2, m2, d2, hov, his, hrd2, hby2⟩ := both_find (k := ks) HR7.out HSCT.out.1 HSCT.out.2
              have HOV := Lib.hid hov
              have HIS := Lib.hid his
              have HRD2 := Lib.hid hrd2
              have HBY2 := Lib.hid hby2
              clear hin hrC hlC hov his hrd2 hby2
              go_upto_region 24 with fail
              rw [← hwa]
              have e0 : wa.cell? ⟨wr.heap.size, 0, none⟩ = some (.slice kA kn kc) := HBa.out.cell 0
              clear hwa v0 v1 v2
              go_wp2_with fail
              refine (get_any (HT7.out.new (HNr.out.tr HNa.out)) kA kn kc ks (HNa.out.rd HIN.out.k.rd) HIN.out.k.byt (by omega)).mono ?_
              rintro e wb ⟨A8, c8, rfl, hO8, hN8⟩
              have HO8 := Lib.hid hO8
              have HN8 : Hid (New wr wb) := Lib.hid (HNa.out.tr hN8)
              have e0 : wb.cell? ⟨wr.heap.size, 0, none⟩ = some (.slice kA kn kc) := hN8.cell_ e0
              clear hO8 hN8
              obtain ⟨tn, htn⟩ : ∃ tn, tn = (tval E4 ks).n := ⟨_, rfl⟩
              obtain ⟨is, hiss⟩ : ∃ is, is = (E4.lookup ks).isSome := ⟨_, rfl⟩
              rw [← htn] at HO8 ⊢
              rw [← hiss]
              have HISS := Lib.hid hiss
              clear htn hiss
              go_wp2_with fail
              refine (rget_any A6 n6 c6 (rdo T xL) kA kn kc ks wb (HR7.out.new (HNr.out.tr HN8.out)).rd HR7.out.len (by omega) (HR7.out.new (HNr.out.tr HN8.out)).el (HN8.out.rd HIN.out.k.rd) HIN.out.k.byt).mono ?_
              rintro e wc ⟨rfl, hN9⟩
              have HN9 : Hid (New wb wc) := Lib.hid hN9
              clear hN9
              rw [HOV.out, HIS.out, ← HISS.out]
              have HBT := Lib.hid (bytes_any A8 B2 tn m2 c8 d2 (tval E4 ks).xs (tval E4 ks).xs wc (HN9.out.rd (Rd.own HO8.out rfl)) ((HNr.out.tr (HN8.out.tr HN9.out)).rd HRD2.out) HBY2.out HBY2.out)
              have hts : decide ((tval E4 ks).xs = (tval E4 ks).xs) = true := by simp
              rw [hts] at HBT
              clear hts e0
              cases is
              all_goals
                go_wp2_with fail
                refine HBT.out.mono ?_
                rintro e wd ⟨rfl, rfl⟩
                go_wp2_with fail
                go_roundw
                case rel => exact ⟨k + 1, by omega, by go_num, Lib.hid (HNr.out.tr (HN8.out.tr HN9.out))⟩
                case measure => simp [intOf]; omega
          · as_aux_lemma =>
              obtain rfl : k = xn := by omega
              go_wp2_with fail
              go_roundw
              case rel => exact ⟨j + 1, n6, A6, c6, by omega, by go_num, rfl, Lib.hid ⟨HN7.out.tr HNr.out, HPN.out.gb, by
                obtain ⟨X5, m5, E5, T5, h1, h2, h3, h4, h5, h6⟩ := HPN.out.st
                exact ⟨X5, m5, E5, T5, h1.new HNr.out, h2.new HNr.out, h3, h4, h5, h6⟩⟩⟩
              case measure => simp [intOf]; omega
      · have hok : chsOk xL = false := by simpa using hok
        have HOK := Lib.hid hok
        have HXL := Lib.hid hxl
        clear hok hxl
        rcases (by omega : xn ≤ 40 ∨ 600 < xn) with h4 | h4
        · have hd4 : decide ((40 : Int) < (xn : Int)) = false := decide_eq_false (by omega)
          clear hgo
          go_wp2_with fail
          refine (copy_any (HTB.out.new HN2.out) (Nat.le_trans HI.out.new.size HN2.out.size)).mono ?_
          rintro e w3 ⟨g3, b3, rfl, hT3, hN3, hg3, hb3⟩
          have HT3 := Lib.hid hT3
          have HN3 : Hid (New wr w3) := Lib.hid (HN2.out.tr hN3)
          clear hT3 hN3 hg3 hb3
          go_wp2_with fail
          refine (apply_bad g xA xn xc xL w3 ((HI.out.new.tr HN3.out).rd HGD.out.tb.rd) HXL.out (by omega) (fun c hc => by have := HSZ.out c hc; unfold maxLen; omega) HOK.out).mono ?_
          rintro e w4 ⟨rfl, hN4⟩
          have HT4 := Lib.hid (HT3.out.new hN4)
          have HN4 : Hid (New wr w4) := Lib.hid (HN3.out.tr hN4)
          clear hN4
          go_wp2_with fail
          refine (doc_any xA xn xc xL w4 ((HI.out.new.tr HN4.out).rd HGD.out.tb.rd) HXL.out (by omega)).mono ?_
          rintro e w5 ⟨⟨A5, c5, rfl, hO5⟩, hN5⟩
          have HD5 : Hid (RTb w5 A5 xn xL) := Lib.hid ⟨rd_szs (Rd.own hO5 rfl), HXL.out, fun c hc => Ch.In.szs ((HGD.out.tb.el c hc).new ((HI.out.new.tr HN4.out).tr hN5))⟩
          have HT5 := Lib.hid (HT4.out.new hN5)
          have HN5 : Hid (New wr w5) := Lib.hid (HN4.out.tr hN5)
          clear hO5 hN5
          go_wp2_with fail
          refine (rright_any A5 xn c5 xL w5 HD5.out.rd HXL.out (by omega) (fun c hc => by have := HSZ.out c hc; unfold maxLen; omega)).mono ?_
          rintro e w5' ⟨rfl, rfl⟩
          rw [HOK.out]
          go_wp2_with fail
          refine (is_some 2 2 w5 (by omega)).mono ?_
          rintro e w5' ⟨rfl, rfl⟩
          go_wp2_with fail
          refine (same_live (HTB.out.new HN5.out) HT5.out (by omega) (by omega) (by omega) (List.Perm.refl _)).mono ?_
          rintro e w6 ⟨rfl, hN6⟩
          have HN6 : Hid (New wr w6) := Lib.hid (HN5.out.tr hN6)
          clear hN6
          go_wp2_with fail
          refine (rights_any xA xn xc xL w6 ((HI.out.new.tr HN6.out).rd HGD.out.tb.rd) HXL.out (by omega) (fun c hc => by have := HSZ.out c hc; unfold maxLen; omega)).mono ?_
          rintro e w7 ⟨rfl, hN7⟩
          rw [HOK.out]
          have HN7 : Hid (New wr w7) := Lib.hid (HN6.out.tr hN7)
          clear hN7
          go_wp2_with fail
          go_roundw
          case rel => exact ⟨j + 1, n', A', c', by omega, by go_num, rfl, Lib.hid ⟨HI.out.new.tr HN7.out, HI.out.gb, ⟨X, mm, E, T, HTB.out.new HN7.out, HRT.out.new HN7.out, HSM.out, HCT.out, by omega, by omega⟩⟩⟩
          case measure => simp [intOf]; omega
        · have hd4 : decide ((40 : Int) < (xn : Int)) = true := decide_eq_true (by omega)
          have hd6 : decide ((xn : Int) ≤ 600) = false := decide_eq_false (by omega)
          clear hgo
          go_wp2_with fail
          refine (copy_any (HTB.out.new HN2.out) (Nat.le_trans HI.out.new.size HN2.out.size)).mono ?_
          rintro e w3 ⟨g3, b3, rfl, hT3, hN3, hg3, hb3⟩
          have HT3 := Lib.hid hT3
          have HN3 : Hid (New wr w3) := Lib.hid (HN2.out.tr hN3)
          clear hT3 hN3 hg3 hb3
          go_wp2_with fail
          refine (apply_bad g xA xn xc xL w3 ((HI.out.new.tr HN3.out).rd HGD.out.tb.rd) HXL.out (by omega) (fun c hc => by have := HSZ.out c hc; unfold maxLen; omega) HOK.out).mono ?_
          rintro e w4 ⟨rfl, hN4⟩
          have HT4 := Lib.hid (HT3.out.new hN4)
          have HN4 : Hid (New wr w4) := Lib.hid (HN3.out.tr hN4)
          clear hN4
          go_wp2_with fail
          refine (doc_any xA xn xc xL w4 ((HI.out.new.tr HN4.out).rd HGD.out.tb.rd) HXL.out (by omega)).mono ?_
          rintro e w5 ⟨⟨A5, c5, rfl, hO5⟩, hN5⟩
          have HD5 : Hid (RTb w5 A5 xn xL) := Lib.hid ⟨rd_szs (Rd.own hO5 rfl), HXL.out, fun c hc => Ch.In.szs ((HGD.out.tb.el c hc).new ((HI.out.new.tr HN4.out).tr hN5))⟩
          have HT5 := Lib.hid (HT4.out.new hN5)
          have HN5 : Hid (New wr w5) := Lib.hid (HN4.out.tr hN5)
          clear hO5 hN5
          go_wp2_with fail
          refine (rright_any A5 xn c5 xL w5 HD5.out.rd HXL.out (by omega) (fun c hc => by have := HSZ.out c hc; unfold maxLen; omega)).mono ?_
          rintro e w5' ⟨rfl, rfl⟩
          rw [HOK.out]
          go_wp2_with fail
          refine (is_some 2 2 w5 (by omega)).mono ?_
          rintro e w5' ⟨rfl, rfl⟩
          go_wp2_with fail
          refine (same_live (HTB.out.new HN5.out) HT5.out (by omega) (by omega) (by omega) (List.Perm.refl _)).mono ?_
          rintro e w6 ⟨rfl, hN6⟩
          have HN6 : Hid (New wr w6) := Lib.hid (HN5.out.tr hN6)
          clear hN6
          go_wp2_with fail
          refine (rights_any xA xn xc xL w6 ((HI.out.new.tr HN6.out).rd HGD.out.tb.rd) HXL.out (by omega) (fun c hc => by have := HSZ.out c hc; unfold maxLen; omega)).mono ?_
          rintro e w7 ⟨rfl, hN7⟩
          rw [HOK.out]
          have HN7 : Hid (New wr w7) := Lib.hid (HN6.out.tr hN7)
          clear hN7
          go_wp2_with fail
          go_roundw
          case rel => exact ⟨j + 1, n', A', c', by omega, by go_num, rfl, Lib.hid ⟨HI.out.new.tr HN7.out, HI.out.gb, ⟨X, mm, E, T, HTB.out.new HN7.out, HRT.out.new HN7.out, HSM.out, HCT.out, by omega, by omega⟩⟩⟩
          case measure => simp [intOf]; omega
    · obtain rfl : j = n := by omega
      clear HR HG
      go_wp2_with fail
      have hlen := congrArg List.length HCT.out
      refine (is_any HTB.out (by omega) (by omega) A' n' c' T HRT.out HSM.out HCT.out).mono ?_
      rintro e w3 ⟨rfl, hN3⟩
      have HN3 := Lib.hid hN3
      clear hN3 hlen
      go_wp2_with fail
      go_ret
      exact ⟨rfl, HI.out.new.tr HN3.out⟩
end Go.Proofs.Ytfhinmjpokollaa
/- KvBack, as its statement's row wants it. No condition but the bound on what is read. -/
namespace Go.Proofs.Ytfhinmjpokollaa
set_option linter.unusedVariables false
set_option linter.unusedSimpArgs false
set_option linter.constructorNameAsVariable false
open Go.RowKit Go.Maps Go.Sort
attribute [local go_sem] Oper.semAt_some

theorem chB_byt {P : Nat → Prop} {w : World} {c : Ch} (h : c.In P w) : Byt (chB c) := by
  intro x hx
  unfold chB at hx
  rcases List.mem_append.1 hx with hx | hx
  · rcases List.mem_append.1 hx with hx | hx
    · rcases List.mem_append.1 hx with hx | hx
      · rw [List.mem_singleton.1 hx]
        cases c.d <;> decide
      · exact beL_byt _ _ x hx
    · exact h.k.byt x hx
  · cases hd : c.d
    · rw [hd, if_neg (by decide)] at hx
      rcases List.mem_append.1 hx with hx | hx
      · exact beL_byt _ _ x hx
      · exact h.v.byt x hx
    · rw [hd, if_pos rfl] at hx
      cases hx
theorem long_g {w : World} {x : Sl} (h : x.Good w) : Calls Try.prog 10 #[.slice x.A x.n x.c] w fun e w' => LongSays x.L e ∧ New w w' :=
  long_any x.A x.n x.c x.L w h.tb h.nn (fun c hc => ⟨(h.gd c hc).kn, (h.gd c hc).vn⟩)
theorem sizes_g {w : World} {x : Sl} (h : x.Good w) (hb : x.L.length ≤ 700 ∧ chSum x.L ≤ 20000) : x.n ≤ 700 ∧ ∀ c ∈ x.L, c.k.n ≤ maxLen ∧ c.v.n ≤ maxLen :=
  ⟨by rw [← h.tb.len]; exact hb.1, fun c hc => by have := chSum_mem hc; unfold maxLen; omega⟩
set_option maxHeartbeats 16000000 in
set_option maxRecDepth 100000 in
theorem back_walk {w : World} (x y : Sl) (hx : x.Good w) (hy : y.Good w) :
    Calls Try.prog 7 #[.slice x.A x.n x.c, .slice y.A y.n y.c] w fun e w' => e = .returned (.bool true) ∧ Below w.heap.size w w' := by
  obtain ⟨xA, xn, xc, xL⟩ := x
  obtain ⟨yA, yn, yc, yL⟩ := y
  have HX := Lib.hid hx
  have HY := Lib.hid hy
  have hxn := hx.nn
  unfold maxLen at hxn
  dsimp only at hxn ⊢
  clear hx hy
  refine (callsIn_wide (n := 3)).1 ?_
  refine callsIn_of_wp_marks Try.func7 rfl trivial ?_ rfl
  refine wpIn_wide.2 ?_
  simp only [Try.ntmps7, List.size_toArray, List.length_cons, List.length_nil, Nat.reduceAdd, Nat.reduceSub, Array.replicate_succ, Array.replicate_zero, List.push_toArray, List.append_toArray, List.nil_append, List.cons_append]
  go_wp2_with fail
  refine (alive_any w).mono ?_
  rintro e w1 ⟨rfl, hN1⟩
  have HN1 := Lib.hid hN1
  clear hN1
  go_wp2_with fail
  refine (long_g (x := ⟨xA, xn, xc, xL⟩) (HX.out.new HN1.out)).mono ?_
  rintro e w2 ⟨⟨bl, rfl, hbl⟩, hN2⟩
  have HN2 : Hid (New w w2) := Lib.hid (HN1.out.tr hN2)
  have HBL := Lib.hid hbl
  clear hN2 hbl HN1
  cases bl
  rotate_left
  · go_wp2_with fail
    refine leaves_marks [] _ (Marks.nil w2.heap.size _) (fun W' hS => ⟨.bool true, by simp [results, Try.results7, go_sem], rfl, HN2.out.trans (hS.below.mono HN2.out.size)⟩)
  go_wp2_with fail
  refine (long_g (x := ⟨yA, yn, yc, yL⟩) (HY.out.new HN2.out)).mono ?_
  rintro e w3 ⟨⟨bl, rfl, hbl⟩, hN3⟩
  have HN3 : Hid (New w w3) := Lib.hid (HN2.out.tr hN3)
  have HBM := Lib.hid hbl
  clear hN3 hbl HN2
  cases bl
  rotate_left
  · go_wp2_with fail
    refine leaves_marks [] _ (Marks.nil w3.heap.size _) (fun W' hS => ⟨.bool true, by simp [results, Try.results7, go_sem], rfl, HN3.out.trans (hS.below.mono HN3.out.size)⟩)
  have hsx := sizes_g HX.out (HBL.out trivial)
  have hsy := sizes_g HY.out (HBM.out rfl)
  have hx7 : xn ≤ 700 := hsx.1
  have hy7 : yn ≤ 700 := hsy.1
  have HSX : Hid (∀ c ∈ xL, c.k.n ≤ maxLen ∧ c.v.n ≤ maxLen) := Lib.hid hsx.2
  have HSY : Hid (∀ c ∈ yL, c.k.n ≤ maxLen ∧ c.v.n ≤ maxLen) := Lib.hid hsy.2
  have HXL : Hid (xL.length = xn) := Lib.hid HX.out.tb.len
  have HYL : Hid (yL.length = yn) := Lib.hid HY.out.tb.len
  clear hsx hsy HBL HBM
  by_cases hok : chsOk xL = true
  rotate_left
  · have hok : chsOk xL = false := by simpa using hok
    have HP := Lib.hid (put_bad xA xn xc xL w3 (HX.out.tb.new HN3.out) (by omega) HSX.out hok)
    clear hok
    go_wp2_with fail
    refine HP.out.mono ?_
    rintro e w4 ⟨rfl, hN4⟩
    have HN4 : Hid (New w w4) := Lib.hid (HN3.out.tr hN4)
    clear hN4 HP
    go_wp2_with fail
    refine leaves_marks [] _ (Marks.nil w4.heap.size _) (fun W' hS => ⟨.bool true, by simp [results, Try.results7, go_sem], rfl, HN4.out.trans (hS.below.mono HN4.out.size)⟩)
  have HOK := Lib.hid hok
  have hpl : (putB xL).length ≤ 100000000 := by
    have hsp := chsOk_spec hok
    unfold putB
    rw [List.length_append, beL_len]
    have := flat_len (L := xL) (fun c hc => by
      have h1 := chB_len (HX.out.tb.el c hc).k.len (HX.out.tb.el c hc).v.len
      have := hsp.2.2 c hc
      omega) xL.length (Nat.le_refl _)
    rw [List.take_length] at this
    omega
  have hpb : Byt (putB xL) := by
    intro b hb
    unfold putB at hb
    rcases List.mem_append.1 hb with hb | hb
    · exact beL_byt _ _ b hb
    · obtain ⟨c, hc, hbc⟩ := List.mem_flatMap.1 hb
      exact chB_byt (HX.out.tb.el c hc) b hbc
  obtain ⟨pb, hpbe⟩ : ∃ pb, pb = putB xL := ⟨_, rfl⟩
  have HPB := Lib.hid hpb
  have HP := Lib.hid (put_any xA xn xc xL w3 (HX.out.tb.new HN3.out) hok)
  rw [← hpbe] at HPB HP hpl
  have HPE := Lib.hid hpbe
  obtain ⟨pl, hple⟩ : ∃ pl, pl = pb.length := ⟨_, rfl⟩
  rw [← hple] at HP hpl
  clear hok hpb hpbe hple
  go_wp2_with fail
  refine HP.out.mono ?_
  rintro e w4 ⟨⟨pA, pc, base, rfl, hbase, hO4⟩, hN4⟩
  have HN4 : Hid (New w w4) := Lib.hid (HN3.out.tr hN4)
  have HO4 := Lib.hid hO4
  clear hN4 hO4 HP hbase
  have HPS := Lib.hid (parse_any pA pl pc pb w4 (Rd.own HO4.out rfl) HPB.out (by omega))
  go_wp2_with fail
  refine HPS.out.mono ?_
  rintro e w5 ⟨hps, hN5⟩
  have hpp : parseB pb = some (xL.map pcOf) := by
    rw [HPE.out]
    exact parse_put HX.out.tb.lens HOK.out
  rw [hpp] at hps
  rcases hps with ⟨h, _⟩ | ⟨zA, zn, zc, zL, hz, rfl, hZ⟩
  · cases h
  injection hz with hz
  have HZE : Hid (xL.map pcOf = zL.map pcOf) := Lib.hid hz
  have hzn : zn = xn := by
    have := congrArg List.length hz
    rw [List.length_map, List.length_map, HXL.out, hZ.len] at this
    exact this.symm
  subst hzn
  have HZ := Lib.hid hZ
  have HZ0 : Hid (chsOk zL = true) := Lib.hid (by rw [← pcsOk_len hZ.lens, ← hz, pcsOk_len HX.out.tb.lens]; exact HOK.out)
  have HN5 : Hid (New w w5) := Lib.hid (HN4.out.tr hN5)
  have HO5 : Hid (w5.ownsRow base 5 1 (.slice pA pl pc) pl (u8s pb)) := Lib.hid (hN5.own HO4.out)
  have HPZ : Hid (putB zL = pb) := Lib.hid (by rw [HPE.out]; exact (putB_pc HX.out.tb.lens hZ.lens hz).symm)
  clear hpp hz hZ hN5 HPS HO4
  have HP2 := Lib.hid (put_any zA zn zc zL w5 HZ.out HZ0.out)
  rw [HPZ.out] at HP2
  have hpl2 : pb.length = pl := by have := HO5.out.1; rw [u8s_len] at this; omega
  rw [hpl2] at HP2
  clear hpl2
  go_wp2_with fail
  refine HP2.out.mono ?_
  rintro e w6 ⟨⟨qA, qc, base2, rfl, hbase2, hO6⟩, hN6⟩
  have HN6 : Hid (New w w6) := Lib.hid (HN5.out.tr hN6)
  have HZ6 := Lib.hid (HZ.out.new hN6)
  have hbt := bytes_any pA qA pl pl pc qc pb pb w6 (Rd.own (hN6.own HO5.out) rfl) (Rd.own hO6 rfl) HPB.out HPB.out
  have hts : decide (pb = pb) = true := by simp
  rw [hts] at hbt
  have HBT := Lib.hid hbt
  clear hbt hts hN6 hO6 HP2 HZ HO5 HN5 hbase2
  go_wp2_with fail
  refine HBT.out.mono ?_
  rintro e w6' ⟨rfl, rfl⟩
  clear HBT
  go_wp2_with fail
  refine (new_any w.heap.size w6 HN6.out.size).mono ?_
  rintro e w7 ⟨g1, b1, rfl, hT7, hN7, hg1, hb1⟩
  have HN7 : Hid (New w w7) := Lib.hid (HN6.out.tr hN7)
  have HT7 := Lib.hid hT7
  have HZ7 := Lib.hid (HZ6.out.new hN7)
  have HB1 : Hid (w6.heap.size ≤ g1 ∧ w6.heap.size ≤ b1) := Lib.hid ⟨hg1, hb1⟩
  clear hT7 hN7 hg1 hb1 HZ6
  go_wp2_with fail
  refine (new_any w.heap.size w7 HN7.out.size).mono ?_
  rintro e w8 ⟨g2, b2, rfl, hT8, hN8, hg2, hb2⟩
  have HN8 : Hid (New w w8) := Lib.hid (HN7.out.tr hN8)
  have HT8 : Hid (TbIn (fun _ => False) w8 w.heap.size g1 b1 0 []) := Lib.hid (HT7.out.new hN8)
  have HU8 := Lib.hid hT8
  have HZ8 := Lib.hid (HZ7.out.new hN8)
  have HB2 : Hid (w7.heap.size ≤ g2 ∧ w7.heap.size ≤ b2 ∧ g1 < w7.heap.size ∧ b1 < w7.heap.size) := Lib.hid ⟨hg2, hb2, HT7.out.blk.lt, HT7.out.blt⟩
  clear hT8 hN8 hg2 hb2 HZ7 HT7
  go_wp2_with fail
  refine (apply_any (P := fun k => k < w.heap.size) HT8.out xA zn xc xL (HN8.out.rd HX.out.tb.rd) HXL.out (fun c hc => (HX.out.tb.el c hc).new HN8.out) (fun k hk => by have := HB1.out; have := HN6.out.size; omega) HOK.out (by omega)).mono ?_
  rintro e w9 ⟨rfl, X9, E9, hT9, hc9, hF9, hX9⟩
  have HT9 := Lib.hid hT9
  have HC9 := Lib.hid hc9
  have HU9 : Hid (TbIn (fun _ => False) w9 w.heap.size g2 b2 0 []) := Lib.hid (HU8.out.fr hF9 (by have := HB2.out; omega) (by have := HB2.out; omega) (fun k _ h => h))
  have HZ9 : Hid (RTb w9 zA zn zL) := Lib.hid (by
    obtain ⟨f, hM⟩ := HT8.out.mapAt
    exact HZ8.out.frb hM hF9)
  have HN9 : Hid (New w w9) := Lib.hid (HN8.out.fr hF9 (fun k hk => by have := HB1.out; have := HN6.out.size; omega))
  clear hT9 hc9 hF9 hX9 HT8 HU8 HZ8
  go_wp2_with fail
  have HZN : Hid (Rd (fun k => k < w9.heap.size ∧ k ≠ b2) w9 3 zA zn (zL.flatMap Ch.cells) ∧ ∀ c ∈ zL, c.In (fun k => k < w9.heap.size ∧ k ≠ b2) w9) := Lib.hid (by
    obtain ⟨f, hM⟩ := HU9.out.mapAt
    exact ⟨rd_not_map HZ9.out.rd hM (by decide), fun c hc => ⟨⟨rd_not_map (HZ9.out.el c hc).k.rd hM (by decide), (HZ9.out.el c hc).k.byt⟩, ⟨rd_not_map (HZ9.out.el c hc).v.rd hM (by decide), (HZ9.out.el c hc).v.byt⟩⟩⟩)
  refine (apply_any HU9.out zA zn zc zL HZN.out.1 HZ9.out.len HZN.out.2 (fun k hk => hk.2) HZ0.out (by omega)).mono ?_
  rintro e wa ⟨rfl, Xa, Ea, hTa, hca, hFa, hXa⟩
  have HUa := Lib.hid hTa
  have HCC : Hid (cont E9 = cont Ea) := Lib.hid (by rw [HC9.out, hca]; exact doCs_pc HZE.out)
  have HTa : Hid (TbIn X9 wa w.heap.size g1 b1 (0 + zn) E9) := Lib.hid (HT9.out.fr hFa (by have := HB2.out; omega) (by have := HB2.out; omega) (fun k hk hx => by
    subst hk
    obtain ⟨f, hM⟩ := HU9.out.mapAt
    exact IsT.not_map hM (HT9.out.xs _ hx).2))
  have HNa : Hid (New w wa) := Lib.hid (HN9.out.fr hFa (fun k hk => by have := HB2.out; have := HN7.out.size; omega))
  have HEL : Hid (E9.length ≤ 700) := Lib.hid (by
    have h1 := congrArg List.length HC9.out
    have h2 := doCs_le (cont []) xL
    rw [cont_len] at h1 h2
    rw [HXL.out] at h2
    simp at h2
    omega)
  clear hTa hca hFa hXa HZN HU9 HZ9 HT9 HC9
  go_wp2_with fail
  refine (same_live HTa.out HUa.out (by omega) (by omega) (by have := HEL.out; omega) (by rw [HCC.out])).mono ?_
  rintro e wb ⟨rfl, hNb⟩
  have HTb := Lib.hid (HTa.out.new hNb)
  have HUb := Lib.hid (HUa.out.new hNb)
  have HNb : Hid (New w wb) := Lib.hid (HNa.out.tr hNb)
  clear hNb HTa HUa
  go_wp2_with fail
  refine (copy_any HTb.out HNb.out.size).mono ?_
  rintro e wc ⟨g3, b3, rfl, hTc, hNc, hg3, hb3⟩
  have HTc := Lib.hid (HTb.out.new hNc)
  have HUc := Lib.hid (HUb.out.new hNc)
  have HVc := Lib.hid hTc
  have HNc : Hid (New w wc) := Lib.hid (HNb.out.tr hNc)
  have HB3 : Hid (wb.heap.size ≤ b3 ∧ g1 < wb.heap.size ∧ b1 < wb.heap.size ∧ g2 < wb.heap.size ∧ b2 < wb.heap.size) := Lib.hid ⟨hb3, HTb.out.blk.lt, HTb.out.blt, HUb.out.blk.lt, HUb.out.blt⟩
  clear hTc hNc hg3 hb3 HTb HUb
  -- the copy turns, whatever comes
  have HAP : Hid (Calls Try.prog 12 #[.pointer (some ⟨g3, 0, none⟩), .slice yA yn yc] wc fun e w' => (∃ v, e = .returned v) ∧ Fr (fun k => k = b3) wc w') := Lib.hid (by
    by_cases hoy : chsOk yL = true
    · refine (apply_any (P := fun k => k < w.heap.size) HVc.out yA yn yc yL (HNc.out.rd HY.out.tb.rd) HYL.out (fun c hc => (HY.out.tb.el c hc).new HNc.out) (fun k hk => by have := HB3.out; have := HNb.out.size; omega) hoy (by omega)).mono ?_
      rintro e w' ⟨rfl, X', E', _, _, hF, _⟩
      exact ⟨⟨_, rfl⟩, hF⟩
    · refine (apply_bad g3 yA yn yc yL wc (HNc.out.rd HY.out.tb.rd) HYL.out (by omega) HSY.out (by simpa using hoy)).mono ?_
      rintro e w' ⟨rfl, hN⟩
      exact ⟨⟨_, rfl⟩, hN.toFr _⟩)
  go_wp2_with fail
  refine HAP.out.mono ?_
  rintro e wd ⟨⟨v, rfl⟩, hFd⟩
  have hnm : ∀ (X : Nat → Prop) (g b m : Nat) (E : Tab), TbIn X wc w.heap.size g b m E → g < wb.heap.size → b < wb.heap.size → TbIn X wd w.heap.size g b m E := fun X g b m E h hg hb =>
    h.fr hFd (by have := HB3.out; omega) (by have := HB3.out; omega) (fun k hk hx => by
      subst hk
      obtain ⟨f, hM⟩ := HVc.out.mapAt
      exact IsT.not_map hM (h.xs _ hx).2)
  have HTd := Lib.hid (hnm _ _ _ _ _ HTc.out HB3.out.2.1 HB3.out.2.2.1)
  have HUd := Lib.hid (hnm _ _ _ _ _ HUc.out HB3.out.2.2.2.1 HB3.out.2.2.2.2)
  have HNd : Hid (New w wd) := Lib.hid (HNc.out.fr hFd (fun k hk => by have := HB3.out; have := HNb.out.size; omega))
  clear hFd hnm HAP HTc HUc HVc HB3
  go_wp2_with fail
  refine (all_any (some ⟨g1, 0, none⟩) wd).mono ?_
  rintro e we ⟨rfl, hwe⟩
  have HNde : Hid (New wd we) := Lib.hid (by rw [hwe]; exact New.al (New.refl _) _)
  have HS := Lib.hid (all1_live (HTd.out.new HNde.out) (by omega) (by have := HEL.out; omega) (fun _ => False) wd.heap.size (by rw [hwe]; exact Blk.new wd _ _) (fun j hj => hj.elim))
  have HNe : Hid (New w we) := Lib.hid (HNd.out.tr HNde.out)
  have HTe := Lib.hid (HTd.out.new HNde.out)
  have HUe := Lib.hid (HUd.out.new HNde.out)
  clear hwe HTd HUd HNde
  go_wp2_with fail
  refine wp_rangeR rfl (enters_of Try.func44 (by kernel_rfl) rfl) (fun x : List Int × Fm => #[.string (strOfNums x.1), x.2.val]) (fun _ => rfl) HS.out (fun x W W' hg hp => hg.puts hp) (fun h k => h.tr k) (fun W W' hp => Kk.puts hp)
    (fun _ W => New we W) (fun _ _ _ h hN => h.tr hN) (fun _ _ _ h hp => h.puts hp (Nat.le_refl _)) (New.refl _) ?a1 ?assign ?body ?done
  case assign =>
    intro l x W K hK
    gi_wp2
    exact hK
  case body =>
    rintro l pre x W hpl hN hG -
    have HG := Lib.hid hG.1
    have HNW := Lib.hid hN
    have hxn2 : x.2.n ≤ 16384 := hG.2.2.1
    clear hG hN hpl
    obtain ⟨xk, vA, vn, vc, vs⟩ := x
    simp only [Fm.val] at HG ⊢
    dsimp only at HG hxn2
    gi_wp2
    gi_loopw [92] (fun i wr => ∃ (j : Nat) (ys : List Int), j ≤ vn ∧ i = .int .i64 j ∧ Hid (wr.ownsRow we.heap.size 5 1 (.slice vA vn vc) vn (ys.map (Value.int .u8))) ∧ Hid (Fr (fun k => (Value.slice vA vn vc).ownBlock = some k) W wr)) (fun i _ => vn - (intOf i).toNat)
    case atStart => exact ⟨0, vs, Nat.zero_le _, rfl, HG, Lib.hid (Fr.refl _ _)⟩
    case round =>
      obtain ⟨j, ys, hj, rfl, HO, HFr⟩ := hrel
      by_cases hjl : j < vn
      · obtain ⟨gV, cV, he, -, -⟩ := own_form HO.out (by omega)
        injection he with he1 he2 he3
        subst he1 he3
        have hyl : ys.length = vn := by have := HO.out.1; rw [List.length_map] at this; omega
        have hjy : j < ys.length := by omega
        have cj : wr.cell? ⟨gV, j, none⟩ = some (.int .u8 ys[j]) := by
          rw [HO.out.cellAt j (by omega), List.getElem?_map, List.getElem?_eq_getElem hjy]
          rfl
        have fj : wr.frozen? ⟨gV, j, none⟩ = false := HO.out.frozenAt j
        have hst := HO.out.stored j
        generalize ys[j] = yj at cj
        have HST := Lib.hid hst
        have hj0 : (0 : Int) ≤ (j : Int) := by omega
        have hjn : (j : Int) < (vn : Int) := by omega
        have HYL := Lib.hid hyl
        clear hst hyl hjy
        gi_wp2
        refine ⟨⟨j + 1, ys.set j (bits BinOp.xor .u8 yj 1), by omega, by go_num, Lib.hid ?_, Lib.hid ?_⟩, by simp [intOf]; omega⟩
        · have := (HST.out (.int .u8 (bits BinOp.xor .u8 yj 1))).1
          rwa [← List.map_set] at this
        · exact HFr.out.setCell (p := ⟨gV, j, none⟩) (fun _ => rfl) _
      · obtain rfl : j = vn := by omega
        gi_wp2
        have hot : ∀ k, (Value.slice vA j vc).ownBlock = some k → IsT 5 W k ∧ we.heap.size ≤ k := fun k hk => ⟨own_isT' HG.out hk, (own_lt HG.out k hk).1⟩
        refine ⟨Kept.fr HFr.out (fun k o hB hs ho => ?_), HFr.out.mono (fun k _ hk => .inr ⟨(hot k hk).2, IsT.not_own HG.out (by decide) hk⟩), HNW.out.fr HFr.out (fun k hk => (hot k hk).2)⟩
        obtain ⟨cs, fz, hx⟩ := (hot k hs).1
        rw [hx] at ho
        injection ho with ho
        rw [← ho]
        rfl
  case done =>
    rintro D fs W hD hfs hNW hDm
    have HDM := Lib.hid hDm
    have HNW := Lib.hid hNW
    have HSM := Lib.hid (same_live (HTe.out.new hNW) (HUe.out.new hNW) (by omega) (by omega) (by have := HEL.out; omega) (by rw [HCC.out]))
    clear hNW hDm hfs
    dsimp only
    go_wp2_with fail
    refine HSM.out.mono ?_
    rintro e W2 ⟨rfl, hN2⟩
    have HN2 : Hid (New w W2) := Lib.hid (HNe.out.tr (HNW.out.tr hN2))
    have HM2 := Lib.hid ((Marks.cons (Marks.nil we.heap.size W) (fun _ h => by cases h) hD HDM.out).new hN2)
    clear hN2 HSM
    go_wp2_with fail
    refine leaves_marks [D] W2 HM2.out (fun W' hS => ⟨.bool true, by simp [results, Try.results7, go_sem], rfl, HN2.out.trans (hS.below.mono HNe.out.size)⟩)
theorem back_law {v1 v2 : Value} {w : World} (h1 : ∃ x : Sl, v1 = .slice x.A x.n x.c ∧ x.Good w) (h2 : ∃ x : Sl, v2 = .slice x.A x.n x.c ∧ x.Good w) :
    Calls Try.prog 7 #[v1, v2] w fun e w' => e = .returned (.bool true) ∧ Below w.heap.size w w' := by
  obtain ⟨x, rfl, hx⟩ := h1
  obtain ⟨y, rfl, hy⟩ := h2
  exact back_walk x y hx hy
end Go.Proofs.Ytfhinmjpokollaa
/- KvBytes, as its statement's row wants it. (mkbytes.py writes this text.) No condition but the bound on what is read. -/
namespace Go.Proofs.Ytfhinmjpokollaa
set_option linter.unusedVariables false
set_option linter.unusedSimpArgs false
set_option linter.constructorNameAsVariable false
open Go.RowKit Go.Maps Go.Sort Go.WideShapes Go.ChangeShapes

/-- Bytes that were handed in. -/
structure By where
  A : Option Addr
  n : Nat
  c : Nat
  xs : List Int
structure By.Good (w : World) (x : By) : Prop where
  rd : Rd (fun b => b < w.heap.size) w 1 x.A x.n (u8s x.xs)
  byt : Byt x.xs
  nc : x.n ≤ x.c
  cm : x.c ≤ 140737488355328
section
variable {H : Type} {enc : TypeId × Value → H} {w : World}
set_option maxRecDepth 100000 in
theorem open_by {r : Reach} {b0 : Nat} {v : Value} {d : DataW H} {p : List MemPlace} (hv : Value.okWide Try.prog w r b0 39 v) (h : DataW.Trod enc Try.prog w 0 (fun _ => true) true 39 v d p) (hz : Sz Try.prog 39 d) :
    ∃ x : By, v = .slice x.A x.n x.c ∧ x.Good w := by
  obtain ⟨a0, n0, c0, rfl⟩ := okWide_slice Try.underlying39 hv
  obtain ⟨fuel, hf⟩ := h
  obtain ⟨A, n, c, xs, e0, h2, h3, h4, h5, h6, h7⟩ := trod_ints (k := .u8) Try.underlying39 Try.underlying5 (by kernel_rfl) hf hz
  have hb : Try.prog.bytesOf 5 = 1 := by kernel_rfl
  rw [hb] at h4
  unfold reachBytes at h4
  refine ⟨⟨A, n, c, xs⟩, e0, h6, fun x hx => ?_, h2, by show c ≤ _; omega⟩
  have := bounds_u8 (h7 x hx)
  omega
end
theorem parse_ok {xs : List Int} {r : List PC} (h : parseB xs = some r) : pcsOk r = true := by
  unfold parseB at h
  split at h
  · next h1 =>
    injection h with h
    rw [← h]
    exact h1.2
  · cases h
theorem sz_of {L : List Ch} (h : chsOk L = true) : ∀ c ∈ L, c.k.n ≤ 16 ∧ c.v.n ≤ 16384 := fun c hc => by have := (chsOk_spec h).2.2 c hc; omega
set_option maxHeartbeats 16000000 in
set_option maxRecDepth 100000 in
theorem bytes_walk {w : World} (x : Sl) (y : By) (hx : x.Good w) (hy : y.Good w) :
    Calls Try.prog 6 #[.slice x.A x.n x.c, .slice y.A y.n y.c] w fun e w' => e = .returned (.bool true) ∧ Below w.heap.size w w' := by
  obtain ⟨xA, xn, xc, xL⟩ := x
  obtain ⟨yA, yn, yc, ys⟩ := y
  have HX := Lib.hid hx
  have HY := Lib.hid hy
  have hxn := hx.nn
  have hyc := hy.cm
  have hync := hy.nc
  unfold maxLen at hxn
  dsimp only at hxn hyc hync ⊢
  have hynm : yn ≤ 140737488355328 := by omega
  clear hx hy hyc hync
  go_enter Try.func6, Try.ntmps6
  go_wp2_with fail
  refine (alive_any w).mono ?_
  rintro e w1 ⟨rfl, hN1⟩
  have HN1 := Lib.hid hN1
  clear hN1
  go_wp2_with fail
  refine (long_g (x := ⟨xA, xn, xc, xL⟩) (HX.out.new HN1.out)).mono ?_
  rintro e w2 ⟨⟨bl, rfl, hbl⟩, hN2⟩
  have HN2 : Hid (New w w2) := Lib.hid (HN1.out.tr hN2)
  have HBL := Lib.hid hbl
  clear hN2 hbl HN1
  cases bl
  rotate_left
  · go_wp2_with fail
    go_ret
    exact ⟨rfl, HN2.out⟩
  by_cases hb2 : 20000 < yn
  · have hdb : decide ((20000 : Int) < (yn : Int)) = true := decide_eq_true (by omega)
    go_wp2_with fail
    go_ret
    exact ⟨rfl, HN2.out⟩
  have hdb : decide ((20000 : Int) < (yn : Int)) = false := decide_eq_false (by omega)
  have hsx := sizes_g HX.out (HBL.out (by first | rfl | trivial))
  have hx7 : xn ≤ 700 := hsx.1
  have HSX : Hid (∀ c ∈ xL, c.k.n ≤ maxLen ∧ c.v.n ≤ maxLen) := Lib.hid hsx.2
  have HXL : Hid (xL.length = xn) := Lib.hid HX.out.tb.len
  clear hsx HBL
  go_wp2_with fail
  refine (doc_any xA xn xc xL w2 (HN2.out.rd HX.out.tb.rd) HXL.out (by omega)).mono ?_
  rintro e w3 ⟨⟨A3, c3, rfl, hO3⟩, hN3⟩
  have HD3 : Hid (RTb w3 A3 xn xL) := Lib.hid ⟨rd_szs (Rd.own hO3 rfl), HXL.out, fun c hc => Ch.In.szs ((HX.out.tb.el c hc).new (HN2.out.tr hN3))⟩
  have HN3 : Hid (New w w3) := Lib.hid (HN2.out.tr hN3)
  clear hO3 hN3
  by_cases hok : chsOk xL = true
  · have hpl : (putB xL).length ≤ 100000000 := by
      have hsp := chsOk_spec hok
      unfold putB
      rw [List.length_append, beL_len]
      have := flat_len (L := xL) (fun c hc => by
        have h1 := chB_len (HX.out.tb.el c hc).k.len (HX.out.tb.el c hc).v.len
        have := hsp.2.2 c hc
        omega) xL.length (Nat.le_refl _)
      rw [List.take_length] at this
      omega
    have hpb : Byt (putB xL) := by
      intro b hb
      unfold putB at hb
      rcases List.mem_append.1 hb with hb | hb
      · exact beL_byt _ _ b hb
      · obtain ⟨c, hc, hbc⟩ := List.mem_flatMap.1 hb
        exact chB_byt (HX.out.tb.el c hc) b hbc
    have HOK := Lib.hid hok
    have HPB := Lib.hid hpb
    have HP := Lib.hid (put_any xA xn xc xL w3 (HX.out.tb.new HN3.out) hok)
    obtain ⟨pl, hple⟩ : ∃ pl, pl = (putB xL).length := ⟨_, rfl⟩
    rw [← hple] at HP hpl
    have HPE := Lib.hid hple
    clear hok hpb hple
    go_wp2_with fail
    refine HP.out.mono ?_
    rintro e w4 ⟨⟨pA, pc, base, rfl, hbase, hO4⟩, hN4⟩
    have HN4 : Hid (New w w4) := Lib.hid (HN3.out.tr hN4)
    have HO4 := Lib.hid hO4
    have HD4 := Lib.hid (HD3.out.new hN4)
    clear hN4 hO4 HP hbase HD3
    go_wp2_with fail
    refine (rright_any A3 xn c3 xL w4 HD4.out.rd HXL.out (by omega) HSX.out).mono ?_
    rintro e w4' ⟨rfl, rfl⟩
    rw [HOK.out]
    have hrp := rput_any A3 xn c3 xL w4 HD4.out (by omega) (sz_of HOK.out)
    rw [← HPE.out] at hrp
    have HRP := Lib.hid hrp
    clear hrp
    go_wp2_with fail
    refine HRP.out.mono ?_
    rintro e w5 ⟨⟨qA, qc, rfl, hO5⟩, hN5⟩
    have HN5 : Hid (New w w5) := Lib.hid (HN4.out.tr hN5)
    have hbt := bytes_any pA qA pl pl pc qc (putB xL) (putB xL) w5 (Rd.own (hN5.own HO4.out) rfl) (Rd.own hO5 rfl) HPB.out HPB.out
    have hts : decide (putB xL = putB xL) = true := by simp
    rw [hts] at hbt
    have HBT := Lib.hid hbt
    clear hbt hts hN5 hO5 HRP HO4 HD4
    go_wp2_with fail
    refine HBT.out.mono ?_
    rintro e w5' ⟨rfl, rfl⟩
    clear HBT
    go_wp2_with fail
    refine (parse_any yA yn yc ys w5 (HN5.out.rd HY.out.rd) HY.out.byt (by omega)).mono ?_
    rintro e w6 ⟨hps, hN6⟩
    have HN6 : Hid (New w w6) := Lib.hid (HN5.out.tr hN6)
    have hrp := rparse_any yA yn yc ys w6 (HN6.out.rd HY.out.rd) (fun k hk => Nat.lt_of_lt_of_le hk HN6.out.size) HY.out.byt HY.out.nc HY.out.cm
    rw [rparse_eq] at hrp
    have HRP := Lib.hid hrp
    clear hN6 hrp
    rcases hps with ⟨hnone, rfl⟩ | ⟨zA, zn, zc, zL, hz, rfl, hZ⟩
    · have HNO := Lib.hid hnone
      clear hnone
      go_wp2_with fail
      refine HRP.out.mono ?_
      rintro e w7 ⟨hrs, hN7⟩
      have HN7 : Hid (New w w7) := Lib.hid (HN6.out.tr hN7)
      clear hN7 HRP
      rcases hrs with ⟨_, rfl⟩ | ⟨A7, n7, c7, L7, h7, _⟩
      · go_wp2_with fail
        refine (is_some 2 2 w7 (by omega)).mono ?_
        rintro e w7' ⟨rfl, rfl⟩
        go_wp2_with fail
        go_ret
        exact ⟨rfl, HN7.out⟩
      · rw [HNO.out] at h7
        cases h7
    · have HZ := Lib.hid hZ
      have HZE := Lib.hid hz
      have hzo := parse_ok hz
      rw [pcsOk_len hZ.lens] at hzo
      have HZO := Lib.hid hzo
      have hzn : zn ≤ 600 := by have := chsOk_spec hzo; have := hZ.len; omega
      clear hz hZ hzo
      go_wp2_with fail
      refine HRP.out.mono ?_
      rintro e w7 ⟨hrs, hN7⟩
      have HN7 : Hid (New w w7) := Lib.hid (HN6.out.tr hN7)
      have HZ7 := Lib.hid (HZ.out.new hN7)
      clear hN7 HRP HZ
      rcases hrs with ⟨h7, _⟩ | ⟨uA, un, uc, uL, hu, rfl, hU⟩
      · rw [HZE.out] at h7
        cases h7
      rw [HZE.out] at hu
      injection hu with hu
      have HU7 := Lib.hid hU
      have HUO : Hid (chsOk uL = true) := Lib.hid (by rw [← pcsOk_len hU.lens, ← hu, pcsOk_len HZ7.out.lens]; exact HZO.out)
      have HPP : Hid (putB uL = putB zL) := Lib.hid (putB_pc hU.lens HZ7.out.lens hu.symm)
      have hun : un ≤ 600 := by have := chsOk_spec HUO.out; have := hU.len; omega
      clear hu hU
      go_wp2_with fail
      refine (doc_any zA zn zc zL w7 HZ7.out.rd HZ7.out.len (by omega)).mono ?_
      rintro e w8 ⟨⟨A8, c8, rfl, hO8⟩, hN8⟩
      have HD8 : Hid (RTb w8 A8 zn zL) := Lib.hid ⟨rd_szs (Rd.own hO8 rfl), HZ7.out.len, fun c hc => Ch.In.szs ((HZ7.out.el c hc).new hN8)⟩
      have HU8 := Lib.hid (HU7.out.new hN8)
      have HN8 : Hid (New w w8) := Lib.hid (HN7.out.tr hN8)
      clear hO8 hN8 HZ7 HU7
      have HQ1 := Lib.hid (rput_any A8 zn c8 zL w8 HD8.out (by omega) (sz_of HZO.out))
      obtain ⟨zl, hzl⟩ : ∃ zl, zl = (putB zL).length := ⟨_, rfl⟩
      rw [← hzl] at HQ1
      have HZB : Hid (Byt (putB zL)) := Lib.hid (by
        intro b hb
        unfold putB at hb
        rcases List.mem_append.1 hb with hb | hb
        · exact beL_byt _ _ b hb
        · obtain ⟨c, hc, hbc⟩ := List.mem_flatMap.1 hb
          exact chB_byt (HD8.out.el c hc) b hbc)
      have HZL := Lib.hid hzl
      clear hzl
      go_wp2_with fail
      refine HQ1.out.mono ?_
      rintro e w9 ⟨⟨A9, c9, rfl, hO9⟩, hN9⟩
      have HO9 := Lib.hid hO9
      have HN9 : Hid (New w w9) := Lib.hid (HN8.out.tr hN9)
      have HQ2 := rput_any uA un uc uL w9 (HU8.out.new hN9) (by omega) (sz_of HUO.out)
      rw [HPP.out, ← HZL.out] at HQ2
      have HQ2 := Lib.hid HQ2
      clear hO9 hN9 HQ1 HD8 HU8
      go_wp2_with fail
      refine HQ2.out.mono ?_
      rintro e wa ⟨⟨Aa, ca, rfl, hOa⟩, hNa⟩
      have hbt := bytes_any A9 Aa zl zl c9 ca (putB zL) (putB zL) wa (Rd.own (hNa.own HO9.out) rfl) (Rd.own hOa rfl) HZB.out HZB.out
      have hts : decide (putB zL = putB zL) = true := by simp
      rw [hts] at hbt
      have HBT := Lib.hid hbt
      have HNa : Hid (New w wa) := Lib.hid (HN9.out.tr hNa)
      clear hbt hts hOa hNa HQ2 HO9
      go_wp2_with fail
      refine HBT.out.mono ?_
      rintro e wa' ⟨rfl, rfl⟩
      go_wp2_with fail
      go_ret
      exact ⟨rfl, HNa.out⟩
  · have hok : chsOk xL = false := by simpa using hok
    have HOK := Lib.hid hok
    have HP := Lib.hid (put_bad xA xn xc xL w3 (HX.out.tb.new HN3.out) (by omega) HSX.out hok)
    clear hok
    go_wp2_with fail
    refine HP.out.mono ?_
    rintro e w4 ⟨rfl, hN4⟩
    have HN5 : Hid (New w w4) := Lib.hid (HN3.out.tr hN4)
    have HD4 := Lib.hid (HD3.out.new hN4)
    clear hN4 HP HD3
    go_wp2_with fail
    refine (rright_any A3 xn c3 xL w4 HD4.out.rd HXL.out (by omega) HSX.out).mono ?_
    rintro e w4' ⟨rfl, rfl⟩
    rw [HOK.out]
    go_wp2_with fail
    refine (is_some 2 2 w4 (by omega)).mono ?_
    rintro e w4' ⟨rfl, rfl⟩
    clear HD4
    go_wp2_with fail
    refine (parse_any yA yn yc ys w4 (HN5.out.rd HY.out.rd) HY.out.byt (by omega)).mono ?_
    rintro e w6 ⟨hps, hN6⟩
    have HN6 : Hid (New w w6) := Lib.hid (HN5.out.tr hN6)
    have hrp := rparse_any yA yn yc ys w6 (HN6.out.rd HY.out.rd) (fun k hk => Nat.lt_of_lt_of_le hk HN6.out.size) HY.out.byt HY.out.nc HY.out.cm
    rw [rparse_eq] at hrp
    have HRP := Lib.hid hrp
    clear hN6 hrp
    rcases hps with ⟨hnone, rfl⟩ | ⟨zA, zn, zc, zL, hz, rfl, hZ⟩
    · have HNO := Lib.hid hnone
      clear hnone
      go_wp2_with fail
      refine HRP.out.mono ?_
      rintro e w7 ⟨hrs, hN7⟩
      have HN7 : Hid (New w w7) := Lib.hid (HN6.out.tr hN7)
      clear hN7 HRP
      rcases hrs with ⟨_, rfl⟩ | ⟨A7, n7, c7, L7, h7, _⟩
      · go_wp2_with fail
        refine (is_some 2 2 w7 (by omega)).mono ?_
        rintro e w7' ⟨rfl, rfl⟩
        go_wp2_with fail
        go_ret
        exact ⟨rfl, HN7.out⟩
      · rw [HNO.out] at h7
        cases h7
    · have HZ := Lib.hid hZ
      have HZE := Lib.hid hz
      have hzo := parse_ok hz
      rw [pcsOk_len hZ.lens] at hzo
      have HZO := Lib.hid hzo
      have hzn : zn ≤ 600 := by have := chsOk_spec hzo; have := hZ.len; omega
      clear hz hZ hzo
      go_wp2_with fail
      refine HRP.out.mono ?_
      rintro e w7 ⟨hrs, hN7⟩
      have HN7 : Hid (New w w7) := Lib.hid (HN6.out.tr hN7)
      have HZ7 := Lib.hid (HZ.out.new hN7)
      clear hN7 HRP HZ
      rcases hrs with ⟨h7, _⟩ | ⟨uA, un, uc, uL, hu, rfl, hU⟩
      · rw [HZE.out] at h7
        cases h7
      rw [HZE.out] at hu
      injection hu with hu
      have HU7 := Lib.hid hU
      have HUO : Hid (chsOk uL = true) := Lib.hid (by rw [← pcsOk_len hU.lens, ← hu, pcsOk_len HZ7.out.lens]; exact HZO.out)
      have HPP : Hid (putB uL = putB zL) := Lib.hid (putB_pc hU.lens HZ7.out.lens hu.symm)
      have hun : un ≤ 600 := by have := chsOk_spec HUO.out; have := hU.len; omega
      clear hu hU
      go_wp2_with fail
      refine (doc_any zA zn zc zL w7 HZ7.out.rd HZ7.out.len (by omega)).mono ?_
      rintro e w8 ⟨⟨A8, c8, rfl, hO8⟩, hN8⟩
      have HD8 : Hid (RTb w8 A8 zn zL) := Lib.hid ⟨rd_szs (Rd.own hO8 rfl), HZ7.out.len, fun c hc => Ch.In.szs ((HZ7.out.el c hc).new hN8)⟩
      have HU8 := Lib.hid (HU7.out.new hN8)
      have HN8 : Hid (New w w8) := Lib.hid (HN7.out.tr hN8)
      clear hO8 hN8 HZ7 HU7
      have HQ1 := Lib.hid (rput_any A8 zn c8 zL w8 HD8.out (by omega) (sz_of HZO.out))
      obtain ⟨zl, hzl⟩ : ∃ zl, zl = (putB zL).length := ⟨_, rfl⟩
      rw [← hzl] at HQ1
      have HZB : Hid (Byt (putB zL)) := Lib.hid (by
        intro b hb
        unfold putB at hb
        rcases List.mem_append.1 hb with hb | hb
        · exact beL_byt _ _ b hb
        · obtain ⟨c, hc, hbc⟩ := List.mem_flatMap.1 hb
          exact chB_byt (HD8.out.el c hc) b hbc)
      have HZL := Lib.hid hzl
      clear hzl
      go_wp2_with fail
      refine HQ1.out.mono ?_
      rintro e w9 ⟨⟨A9, c9, rfl, hO9⟩, hN9⟩
      have HO9 := Lib.hid hO9
      have HN9 : Hid (New w w9) := Lib.hid (HN8.out.tr hN9)
      have HQ2 := rput_any uA un uc uL w9 (HU8.out.new hN9) (by omega) (sz_of HUO.out)
      rw [HPP.out, ← HZL.out] at HQ2
      have HQ2 := Lib.hid HQ2
      clear hO9 hN9 HQ1 HD8 HU8
      go_wp2_with fail
      refine HQ2.out.mono ?_
      rintro e wa ⟨⟨Aa, ca, rfl, hOa⟩, hNa⟩
      have hbt := bytes_any A9 Aa zl zl c9 ca (putB zL) (putB zL) wa (Rd.own (hNa.own HO9.out) rfl) (Rd.own hOa rfl) HZB.out HZB.out
      have hts : decide (putB zL = putB zL) = true := by simp
      rw [hts] at hbt
      have HBT := Lib.hid hbt
      have HNa : Hid (New w wa) := Lib.hid (HN9.out.tr hNa)
      clear hbt hts hOa hNa HQ2 HO9
      go_wp2_with fail
      refine HBT.out.mono ?_
      rintro e wa' ⟨rfl, rfl⟩
      go_wp2_with fail
      go_ret
      exact ⟨rfl, HNa.out⟩
theorem bytes_law {v1 v2 : Value} {w : World} (h1 : ∃ x : Sl, v1 = .slice x.A x.n x.c ∧ x.Good w) (h2 : ∃ x : By, v2 = .slice x.A x.n x.c ∧ x.Good w) :
    Calls Try.prog 6 #[v1, v2] w fun e w' => e = .returned (.bool true) ∧ Below w.heap.size w w' := by
  obtain ⟨x, rfl, hx⟩ := h1
  obtain ⟨y, rfl, hy⟩ := h2
  exact bytes_walk x y hx hy
end Go.Proofs.Ytfhinmjpokollaa
