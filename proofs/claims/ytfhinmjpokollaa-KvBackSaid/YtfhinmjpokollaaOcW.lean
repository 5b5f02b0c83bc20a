/- The program's writer of octets, as long as nothing is refused: what it has written. No condition but that what is written can be read. -/
import Derived.Test.YtfhinmjpokollaaOcA
import Derived.Test.YtfhinmjpokollaaBytes
import Derived.Test.YtfhinmjpokollaaTyp
import Derived.Test.YtfhinmjpokollaaMx
import Derived.IntWalk
import Derived.Test.YtfhinmjpokollaaBs
import Derived.Test.YtfhinmjpokollaaWhole
namespace Go.Proofs.Ytfhinmjpokollaa
set_option linter.unusedVariables false
set_option linter.unusedSimpArgs false
set_option linter.constructorNameAsVariable false
open Go.RowKit Go.Maps

theorem rd_szs' {p : Nat → Prop} {w : World} {s n : Nat} {A : Option Addr} {xs : List Value} (h : Rd p w s A n xs) : Rd (fun b => b < w.heap.size) w s A n xs :=
  ⟨h.1, fun hn => by obtain ⟨ad, e, _, hb, hc⟩ := h.2 hn; exact ⟨ad, e, hb, hb, hc⟩⟩
/-- slices.Clone of bytes. -/
theorem sclone_any {p : Nat → Prop} (A : Option Addr) (n c : Nat) (xs : List Int) (w : World) (hO : Rd p w 1 A n (u8s xs)) (hn : n ≤ 140737488355328) :
    Calls Try.prog 67 #[.slice A n c] w fun e w' => (∃ A' c', e = .returned (.slice A' n c') ∧ w'.ownsRow w.heap.size 5 1 (.slice A' n c') n (u8s xs)) ∧ New w w' := by
  have HR := Lib.hid hO
  rcases A with _ | ad
  · have h0 : n = 0 := by
      rcases Nat.eq_zero_or_pos n with h | h
      · exact h
      · obtain ⟨ad, h', _⟩ := hO.2 h
        cases h'
    subst h0
    have hz : xs = [] := List.eq_nil_of_length_eq_zero (by have := hO.1; rw [u8s_len] at this; omega)
    subst hz
    clear hO
    have hen := fun w => Lib.run_eql_slice_nil (P := Try.prog) w 39 5 none 0 c 0 0 Try.underlying39
    go_enter Try.func67, Try.ntmps67
    go_wp2_with fail
    go_ret
    exact ⟨⟨none, 0, rfl, World.ownsRow_nil _ _ _ _⟩, New.refl w⟩
  · clear hO
    have hen := fun w => Lib.run_eql_slice_nil (P := Try.prog) w 39 5 (some ad) n c 0 0 Try.underlying39
    go_enter Try.func67, Try.ntmps67
    go_wp2_with (at_builtin; refine wpList_app elB _ rfl (.tmp 5) (.tmp 6) rfl w.heap.size (.slice (some ⟨w.heap.size, 0, none⟩) 0 0) 0 [] rfl (own_lit (Blk.new w 5 #[]) (Nat.le_refl _)) (some ad) n c (u8s xs) rfl (New.rd (New.al (New.refl w) _) HR.out) (u8s_one xs) (by unfold maxLen; omega) (by omega) (by simp) ?_; intro A1 d1 w3 hO3 hF3 hA3; rw [Nat.zero_add]; rw [Nat.zero_add, List.nil_append] at hO3; have HO3 := Lib.hid hO3; have HN3 : Hid (New w w3) := Lib.hid ((New.al (New.refl w) _).fr hF3 (by intro k hk; simp [Value.ownBlock] at hk; omega)); clear hO3 hF3 hA3)
    go_ret
    exact ⟨⟨A1, d1, rfl, HO3.out⟩, HN3.out⟩

/-- A writer's own blocks: itself, and rows of bytes that came behind it. -/
def WS (base g : Nat) (w : World) (k : Nat) : Prop := k = g ∨ (base ≤ k ∧ IsT 5 w k)
/-- A writer that has refused nothing. -/
structure WrIn (w : World) (base g : Nat) (xs : List Int) : Prop where
  st : ∃ A c, Blk w g 86 #[.nilIface, .slice A xs.length c] ∧ w.ownsRow base 5 1 (.slice A xs.length c) xs.length (u8s xs)
  gb : base ≤ g
  byt : Byt xs
def FW (base g : Nat) (w w' : World) : Prop := Fr (WS base g w) w w'
section
variable {base g : Nat} {w w' w'' : World} {xs : List Int}
theorem FW.refl : FW base g w w := Fr.refl _ _
theorem FW.tr (h : FW base g w w') (k : FW base g w' w'') : FW base g w w'' := by
  refine ⟨k.os.trans h.os, k.tape.trans h.tape, k.output.trans h.output, Nat.le_trans h.size k.size, fun j hj hn => ?_⟩
  have e := h.block j hj hn
  refine (k.block j (Nat.lt_of_lt_of_le hj h.size) (fun hs => hn ?_)).trans e
  rcases hs with hs | ⟨hs, cs, fz, hx⟩
  · exact .inl hs
  · exact .inr ⟨hs, cs, fz, e.symm.trans hx⟩
theorem FW.new (h : New w w') : FW base g w w' := h.toFr _
theorem WrIn.lt (h : WrIn w base g xs) : g < w.heap.size := by obtain ⟨A, c, hb, _⟩ := h.st; exact hb.lt
theorem WrIn.base_le (h : WrIn w base g xs) : base ≤ w.heap.size := by have := h.lt; have := h.gb; omega
theorem WrIn.new (h : WrIn w base g xs) (hN : New w w') : WrIn w' base g xs := by
  obtain ⟨A, c, hb, ho⟩ := h.st
  exact ⟨⟨A, c, hN.blk hb, hN.own ho⟩, h.gb, h.byt⟩
/-- What a writer's step leaves of other blocks. -/
theorem FW.blk (h : FW base g w w') {k t : Nat} {cs : Array Value} (hb : Blk w k t cs) (ht : t ≠ 5) (hk : k ≠ g) : Blk w' k t cs :=
  hb.fr h (fun hs => hs.elim hk (fun x => IsT.not_blk hb ht x.2))
theorem FW.toNew (h : FW base g w w') {w0 : World} (hN : New w0 w) (hb : w0.heap.size ≤ base) (hg : base ≤ g) : New w0 w' := hN.fr h (fun k hk => hk.elim (fun x => by omega) (fun x => by omega))
end
theorem sized_yes (n : Int) (h : n = 1 ∨ n = 2 ∨ n = 4 ∨ n = 8) (w : World) : Calls Try.prog 64 #[.int .i64 n] w fun e w' => e = .returned (.bool true) ∧ w = w' := by
  rcases h with rfl | rfl | rfl | rfl
  all_goals
    go_enter Try.func64, Try.ntmps64
    go_wp2_with fail
    go_ret
    exact ⟨rfl, rfl⟩
theorem own_isT' {w : World} {base e s n k : Nat} {v : Value} {xs : List Value} (h : w.ownsRow base e s v n xs) (hk : v.ownBlock = some k) : IsT e w k := by
  rcases h.2 with ⟨rfl, _⟩ | ⟨g', cap, cur, rfl, _, hh, _⟩
  · simp [Value.ownBlock] at hk
  · have : g' = k := by simpa [Value.ownBlock] using hk
    subst this
    exact ⟨_, _, hh⟩
/-- An append to what was written, and its store. -/
theorem wr_step {base g : Nat} {w w3 w5 : World} {xs ys : List Int} {A A1 : Option Addr} {n m c d1 : Nat} (H : WrIn w base g xs) (hB : Blk w g 86 #[.nilIface, .slice A n c]) (hO : w.ownsRow base 5 1 (.slice A n c) n (u8s xs)) (hn : n = xs.length) (hN : New w w3)
    (hF5 : Fr (fun k => (Value.slice A n c).ownBlock = some k) w3 w5) (hO5 : w5.ownsRow base 5 1 (.slice A1 (n + m) d1) (n + m) (u8s xs ++ u8s ys)) (hm : ys.length = m) (hb : Byt ys) :
    WrIn (w5.setCell ⟨g, 1, none⟩ (.slice A1 (n + m) d1)) base g (xs ++ ys) ∧ FW base g w (w5.setCell ⟨g, 1, none⟩ (.slice A1 (n + m) d1)) := by
  have hne : (Value.slice A n c).ownBlock ≠ some g := own_ne hO hB (by decide)
  have hB5 : Blk w5 g 86 #[.nilIface, .slice A n c] := (hN.blk hB).fr hF5 (fun hk => hne hk)
  have hFs : Fr (fun k => k = g) w5 (w5.setCell ⟨g, 1, none⟩ (.slice A1 (n + m) d1)) := (Fr.refl (fun k => k = g) w5).setCell (p := ⟨g, 1, none⟩) (fun _ => rfl) _
  have hBs : Blk (w5.setCell ⟨g, 1, none⟩ (.slice A1 (n + m) d1)) g 86 #[.nilIface, .slice A1 (n + m) d1] := by
    have := hB5.set 1 (.slice A1 (n + m) d1)
    simpa using this
  have hne1 : ∀ k, (Value.slice A1 (n + m) d1).ownBlock = some k → ¬ k = g := fun k hk e => by
    subst e
    exact own_ne hO5 hB5 (by decide) hk
  refine ⟨⟨⟨A1, d1, ?_, ?_⟩, H.gb, fun x hx => ?_⟩, ?_⟩
  · rw [List.length_append, ← hn, hm]
    exact hBs
  · rw [List.length_append, ← hn, hm]
    have e : u8s (xs ++ ys) = u8s xs ++ u8s ys := by simp [u8s]
    rw [e]
    exact own_fr hO5 hFs (fun k hk => hne1 k hk)
  · rcases List.mem_append.1 hx with hx | hx
    · exact H.byt x hx
    · exact hb x hx
  · have hF : FW base g w w3 := FW.new hN
    have hF2 : FW base g w3 w5 := hF5.mono (fun k _ hk => .inr ⟨(own_lt hO k hk).1, own_isT' (hN.own hO) hk⟩)
    exact (hF.tr hF2).tr (hFs.mono (fun k _ hk => .inl hk))
theorem wraw_any {base g : Nat} {w : World} {xs : List Int} {p : Nat → Prop} (h : WrIn w base g xs) (B : Option Addr) (m d : Nat) (ys : List Int) (hR : Rd p w 1 B m (u8s ys)) (hb : Byt ys) (hl : xs.length + m ≤ 140737488355328) :
    Calls Try.prog 66 #[.pointer (some ⟨g, 0, none⟩), .slice B m d] w fun e w' => e = .returned (.pointer (some ⟨g, 0, none⟩)) ∧ WrIn w' base g (xs ++ ys) ∧ FW base g w w' := by
  obtain ⟨A, c, hB, hO⟩ := h.st
  have hm : ys.length = m := by have := hR.1; rw [u8s_len] at this; omega
  have H := Lib.hid h
  have HB := Lib.hid hB
  have HO := Lib.hid hO
  have HR := Lib.hid hR
  have HY := Lib.hid hb
  have HM := Lib.hid hm
  have hne : (Value.slice A xs.length c).ownBlock ≠ some g := own_ne hO hB (by decide)
  have HNE := Lib.hid hne
  obtain ⟨n, hn⟩ : ∃ n, n = xs.length := ⟨_, rfl⟩
  rw [← hn] at HB HO HNE hl
  have HNL := Lib.hid hn
  clear h hb hB hO hR hm hne hn
  have c1 : w.cell? ⟨g, 1, none⟩ = some (.slice A n c) := HB.out.cell 1
  go_enter Try.func66, Try.ntmps66
  go_wp2_with (at_builtin; refine wpList_app (o := ⟨some 13, _, _, _, _, _⟩) elB _ rfl (.tmp 11) (.tmp 12) rfl base (.slice A n c) n (u8s xs) rfl HO.out B m d (u8s ys) rfl HR.out (u8s_one ys) (by unfold maxLen; omega) (by omega) H.out.base_le ?_; intro A1 d1 w3 hO3 hF3 hA3; have HB3 : Hid (Blk w3 g 86 #[.nilIface, .slice A n c]) := Lib.hid (HB.out.fr hF3 (fun hk => HNE.out hk)); have f3 := HB3.out.frozen 1; have c3 : w3.cell? ⟨g, 1, none⟩ = some (.slice A n c) := HB3.out.cell 1; have HO3 := Lib.hid hO3; have HF3 := Lib.hid hF3; have HA3 := Lib.hid hA3; clear hO3 hF3 hA3)
  go_ret
  have hst := wr_step (ys := ys) H.out HB.out HO.out HNL.out (New.refl w) HF3.out HO3.out HM.out HY.out
  exact ⟨rfl, hst.1, hst.2⟩
theorem step_bs1v {P : Program} {ops : Array Oper} {o : Oper} {a : Act} {K : Act → World → Prop} {Q : Exit → Act → World → Prop} {w : World} {F : Prop} {t e : TypeId} {bytes : Nat} (E : ElemOf P t e 1 bytes) (hw : Region.wanted o (yielded ops a.tmps) = true) (x : Operand)
    (ho : o.op = .buildSlice t 1 #[(0, x)]) (v : Value) (hx : a.eval x = v) (hv : v.cells.size = 1)
    (h : ∀ g w', Blk w' g e v.cells → New w w' → w.heap.size ≤ g → K (a.put o.dst (.slice (some ⟨g, 0, none⟩) 1 1)) w') : if Region.wanted o (yielded ops a.tmps) = true then Oper.wp P o a w K Q else F := by
  rw [if_pos hw]
  unfold Oper.wp execOp
  simp only [ho, Sem.run_bind, List.map_toArray, List.map_cons, List.map_nil, hx, run_bs1 E (by decide) v hv w, Result.andThen_ok]
  exact h _ _ (Blk.new _ _ _) (New.al (New.refl _) _) (Nat.le_refl _)
theorem shr_int (n k : Nat) : (n : Int) / 2 ^ (8 * (k : Int)).toNat = ((n / 256 ^ k : Nat) : Int) := by
  have e1 : (8 * (k : Int)).toNat = 8 * k := by omega
  have e2 : (2 : Nat) ^ (8 * k) = 256 ^ k := by rw [Nat.pow_mul]
  rw [e1, Int.natCast_ediv, ← e2, Int.natCast_pow]
  rfl
theorem u8_wrap (m : Nat) : IntKind.u8.wrap (m : Int) = ((m % 256 : Nat) : Int) := by
  simp [IntKind.wrap, IntKind.signed, IntKind.bits]
set_option maxRecDepth 100000 in
set_option maxHeartbeats 4000000 in
theorem wnum_any {base g : Nat} {w : World} {xs : List Int} (h : WrIn w base g xs) (n size : Nat) (hs : size = 1 ∨ size = 2 ∨ size = 4 ∨ size = 8) (hn : n < 256 ^ size) (hl : xs.length + 8 ≤ 140737488355328) :
    Calls Try.prog 46 #[.pointer (some ⟨g, 0, none⟩), .int .u64 n, .int .i64 size] w fun e w' => e = .returned (.pointer (some ⟨g, 0, none⟩)) ∧ WrIn w' base g (xs ++ beL size n) ∧ FW base g w w' := by
  have H := Lib.hid h
  have hsz := fun w => sized_yes size (by omega) w
  have hs8 : size ≤ 8 := by omega
  have hs1 : 1 ≤ size := by omega
  clear h
  go_enter Try.func46, Try.ntmps46
  go_wp2_with fail
  refine (hsz w).mono ?_
  rintro e w0 ⟨rfl, rfl⟩
  have hsh := shr_int n size
  rw [Nat.div_eq_of_lt hn] at hsh
  clear hsz
  by_cases h8 : size < 8
  all_goals
    have hd8 : decide ((size : Int) < 8) = decide (size < 8) := decide_eq_decide.2 (by omega)
    go_wp2_with fail
    clear hsh hd8
    go_loopw [7] (fun i wr => ∃ j : Nat, j ≤ size ∧ i = .int .i64 ((j : Int) - 1) ∧ Hid (WrIn wr base g (xs ++ (beL size n).take (size - j))) ∧ Hid (FW base g w wr)) (fun i _ => (intOf i + 1).toNat)
    case atStart => exact ⟨size, Nat.le_refl _, rfl, Lib.hid (by simpa using H.out), Lib.hid FW.refl⟩
    case round =>
      obtain ⟨j, hj, rfl, HR, HF⟩ := hrel
      rcases Nat.eq_zero_or_pos j with h0 | h0
      · subst h0
        go_wp2_with fail
        go_ret
        have hR := HR.out
        rw [Nat.sub_zero, List.take_of_length_le (by rw [beL_len]; exact Nat.le_refl _)] at hR
        exact ⟨rfl, hR, HF.out⟩
      · obtain ⟨k, rfl⟩ : ∃ k, j = k + 1 := ⟨j - 1, by omega⟩
        have hk : (((k + 1 : Nat) : Int) - 1) = (k : Int) := by omega
        rw [hk]
        obtain ⟨A, c, hB, hO⟩ := HR.out.st
        have hlen : (xs ++ (beL size n).take (size - (k + 1))).length = xs.length + (size - (k + 1)) := by
          rw [List.length_append, List.length_take, beL_len]
          omega
        rw [hlen] at hB hO
        have HB := Lib.hid hB
        have HO := Lib.hid hO
        clear hB hO hlen hk
        go_wp2_with fail
        have c1 : wr.cell? ⟨g, 1, none⟩ = some (.slice A (xs.length + (size - (k + 1))) c) := HB.out.cell 1
        refine wp_region_mix (CellIs ⟨g, 1, none⟩ (.slice A (xs.length + (size - (k + 1))) c)) 14 [(true, 0), (true, 1), (true, 2), (true, 3), (true, 4), (true, 5), (true, 6), (true, 7), (true, 8), (true, 9), (false, 10), (false, 11), (true, 12), (true, 13), (false, 14)] (by kernel_rfl) (by kernel_rfl) c1 (fun hne => ?_)
        have cp := CellIs.all ⟨g, 1, none⟩ (.slice A (xs.length + (size - (k + 1))) c)
        have hsh := shr_int n k
        have hbw : IntKind.u8.wrap ((n : Int) / 256 ^ k) = ((byteAt n k : Nat) : Int) := by
          rw [show (n : Int) / 256 ^ k = ((n / 256 ^ k : Nat) : Int) from by simp, u8_wrap]
          rfl
        have hwr : IntKind.i64.wrap (8 * (k : Int)) = 8 * k := IntWalk.i64_in _ (by omega)
        have hk0 : (0 : Int) ≤ 8 * (k : Int) := by omega
        have hk64 : 8 * (k : Int) ≤ 64 := by omega
        iterate 10 (refine mix_take (o := ⟨_, _, _, _, _, _⟩) rfl (fun K hK => ?_); go_simp; refine hK _ ?_; clear hK K)
        refine mix_act (o := ⟨_, _, _, _, _, _⟩) rfl (fun K hK => ?_) (.inl rfl)
        refine step_bs1v elB rfl (.tmp 45) rfl (.int .u8 (byteAt n k : Nat)) (by rfl) rfl ?_
        intro gb w3 hB3 hN3 hl3
        simp only [Act.put, List.setIfInBounds_toArray, List.set_cons_zero, List.set_cons_succ]
        have hN3 : New wr w3 := New.tr (New.dr (New.refl _)) hN3
        have c3 : w3.cell? ⟨g, 1, none⟩ = some (.slice A (xs.length + (size - (k + 1))) c) := hN3.cell_ c1
        refine hK.out _ _ (fun _ => c3) ?_
        clear hK K
        clear hbw hsh hwr
        have HN3 : Hid (New wr w3) := Lib.hid hN3
        have HB3 : Hid (Blk w3 gb 5 #[.int .u8 (byteAt n k : Nat)]) := Lib.hid hB3
        clear hN3 hB3
        refine mix_act (o := ⟨_, _, _, _, _, _⟩) rfl (fun K hK => ?_) (.inl rfl)
        refine step_app elB _ (by rfl) (.tmp 40) (.tmp 46) (by rfl) base (.slice A (xs.length + (size - (k + 1))) c) (xs.length + (size - (k + 1))) _ (by rfl) (HN3.out.own HO.out) (some ⟨gb, 0, none⟩) 1 1 [.int .u8 (byteAt n k : Nat)] (by rfl) (Rd.ofBlk (p := fun _ => True) HB3.out 1 1 rfl trivial) (by simp [Value.oneCell']) (by unfold maxLen; omega) (by omega) (Nat.le_trans HR.out.base_le HN3.out.size) ?_
        intro A4 d4 w5 hO5 hF5 hA5
        simp only [Act.put, List.setIfInBounds_toArray, List.set_cons_zero, List.set_cons_succ]
        have HNE : Hid ((Value.slice A (xs.length + (size - (k + 1))) c).ownBlock ≠ some g) := Lib.hid (own_ne HO.out HB.out (by decide))
        have c5 : w5.cell? ⟨g, 1, none⟩ = some (.slice A (xs.length + (size - (k + 1))) c) := hF5.cell_some c3 (fun hk => HNE.out hk)
        have HB5 : Hid (Blk w5 g 86 #[.nilIface, .slice A (xs.length + (size - (k + 1))) c]) := Lib.hid ((HN3.out.blk HB.out).fr hF5 (fun hk => HNE.out hk))
        have f5 := HB5.out.frozen 1
        have HF5 := Lib.hid hF5
        have HO5 := Lib.hid hO5
        have HA5 := Lib.hid hA5
        clear hF5 hO5 hA5
        refine hK.out _ _ (fun _ => c5) ?_
        clear hK K
        iterate 2 (refine mix_take (o := ⟨_, _, _, _, _, _⟩) rfl (fun K hK => ?_); go_simp; refine hK _ ?_; clear hK K)
        refine mix_act (o := ⟨_, _, _, _, _, _⟩) rfl (fun K hK => ?_) (.inl rfl)
        go_simp
        refine hK.out _ _ (fun h => absurd rfl h) ?_
        clear hK K
        refine mix_done ?_
        go_wp2_with fail
        go_roundw
        case rel =>
          have hst := wr_step (ys := [((byteAt n k : Nat) : Int)]) HR.out HB.out HO.out (by rw [List.length_append, List.length_take, beL_len]; omega) HN3.out HF5.out HO5.out rfl (fun x hx => by
            rw [List.mem_singleton] at hx
            subst hx
            have := byteAt_lt n k
            omega)
          rw [List.append_assoc, ← beL_take size n k (by omega)] at hst
          exact ⟨k, by omega, rfl, Lib.hid hst.1, Lib.hid (HF.out.tr hst.2)⟩
        case measure => simp [intOf]
theorem wflag_any {base g : Nat} {w : World} {xs : List Int} (h : WrIn w base g xs) (b : Bool) (hl : xs.length + 8 ≤ 140737488355328) :
    Calls Try.prog 47 #[.pointer (some ⟨g, 0, none⟩), .bool b] w fun e w' => e = .returned (.pointer (some ⟨g, 0, none⟩)) ∧ WrIn w' base g (xs ++ [if b then 1 else 0]) ∧ FW base g w w' := by
  cases b
  · have HN := Lib.hid (wnum_any h 0 1 (by omega) (by omega) hl)
    clear h
    go_enter Try.func47, Try.ntmps47
    go_wp2_with fail
    refine HN.out.mono ?_
    rintro e w1 ⟨rfl, h1, h2⟩
    have H1 := Lib.hid h1
    have H2 := Lib.hid h2
    clear h1 h2 HN
    go_wp2_with fail
    go_ret
    exact ⟨rfl, H1.out, H2.out⟩
  · have HN := Lib.hid (wnum_any h 1 1 (by omega) (by omega) hl)
    clear h
    go_enter Try.func47, Try.ntmps47
    go_wp2_with fail
    refine HN.out.mono ?_
    rintro e w1 ⟨rfl, h1, h2⟩
    have H1 := Lib.hid h1
    have H2 := Lib.hid h2
    clear h1 h2 HN
    go_wp2_with fail
    go_ret
    exact ⟨rfl, H1.out, H2.out⟩
theorem wbytes_any {base g : Nat} {w : World} {xs : List Int} {p : Nat → Prop} (h : WrIn w base g xs) (B : Option Addr) (m d : Nat) (ys : List Int) (hR : Rd p w 1 B m (u8s ys)) (hb : Byt ys) (hm : m ≤ 65535) (hl : xs.length + m + 8 ≤ 140737488355328) (hp : ∀ k, p k → k ≠ g ∧ (k < base ∨ ¬ IsT 5 w k)) :
    Calls Try.prog 48 #[.pointer (some ⟨g, 0, none⟩), .slice B m d] w fun e w' => e = .returned (.pointer (some ⟨g, 0, none⟩)) ∧ WrIn w' base g (xs ++ beL 2 m ++ ys) ∧ FW base g w w' := by
  have HN := Lib.hid (wnum_any h m 2 (by omega) (by omega) (by omega))
  have HR := Lib.hid hR
  have HB := Lib.hid hb
  have HP := Lib.hid hp
  clear h hR hb hp
  go_enter Try.func48, Try.ntmps48
  go_wp2_with fail
  refine HN.out.mono ?_
  rintro e w1 ⟨rfl, h1, h2⟩
  have H1 := Lib.hid h1
  have H2 := Lib.hid h2
  clear h1 h2 HN
  go_wp2_with fail
  refine (wraw_any H1.out B m d ys (HR.out.fr H2.out (fun k hk hs => by
    have := HP.out k hk
    rcases hs with hs | hs
    · exact this.1 hs
    · rcases this.2 with h | h
      · omega
      · exact h hs.2)) HB.out (by rw [List.length_append, beL_len]; omega)).mono ?_
  rintro e w2 ⟨rfl, h1, h2⟩
  have H3 := Lib.hid h1
  have H4 := Lib.hid h2
  clear h1 h2
  go_wp2_with fail
  go_ret
  exact ⟨rfl, H3.out, H2.out.tr H4.out⟩
theorem wdone_any {base g : Nat} {w : World} {xs : List Int} (h : WrIn w base g xs) (hl : xs.length ≤ 140737488355328) :
    Calls Try.prog 49 #[.pointer (some ⟨g, 0, none⟩)] w fun e w' => (∃ A c, e = .returned (.tuple #[.slice A xs.length c, .nilIface]) ∧ w'.ownsRow w.heap.size 5 1 (.slice A xs.length c) xs.length (u8s xs)) ∧ New w w' := by
  obtain ⟨A, c, hB, hO⟩ := h.st
  have HB := Lib.hid hB
  have HC := Lib.hid (sclone_any A xs.length c xs w (Rd.own hO rfl) hl)
  have c0 : w.cell? ⟨g, 0, none⟩ = some .nilIface := hB.cell 0
  have c1 : w.cell? ⟨g, 1, none⟩ = some (.slice A xs.length c) := hB.cell 1
  clear h hB hO
  go_enter Try.func49, Try.ntmps49
  go_wp2_with fail
  refine HC.out.mono ?_
  rintro e w1 ⟨⟨A1, d1, rfl, hO1⟩, hN1⟩
  have HO1 := Lib.hid hO1
  have HN1 := Lib.hid hN1
  clear hO1 hN1
  go_wp2_with fail
  go_ret2
  exact ⟨⟨A1, d1, rfl, HO1.out⟩, HN1.out⟩
end Go.Proofs.Ytfhinmjpokollaa
