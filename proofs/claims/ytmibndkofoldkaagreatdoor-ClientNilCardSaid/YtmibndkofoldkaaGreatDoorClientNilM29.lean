/- Texts of one proof, one behind the other: ClC, ClD, ClE, RcL, RcW, RcS, RcE. No condition but each one's own. -/
import Derived.Test.YtmibndkofoldkaaGreatDoorClientNilM27
import Derived.Test.YtmibndkofoldkaaGreatDoorClientNilM28
import Derived.Test.YtmibndkofoldkaaGreatDoorClientNilM23
import Derived.Test.YtmibndkofoldkaaGreatDoorClientNilM18
import Derived.Test.YtmibndkofoldkaaGreatDoorClientNilM14
import Derived.Test.YtmibndkofoldkaaGreatDoorClientNilM10
namespace Go.Proofs.YtmibndkofoldkaaGreatDoor
set_option linter.unusedVariables false
set_option linter.unusedSimpArgs false
set_option linter.constructorNameAsVariable false
open Go.RowKit Go.Sort Go.Maps
def maxN (a b : Nat) : Nat := if a < b then b else a
theorem run_maxu (a b : Nat) (w : World) : (Builtin.max_ #[24, 24] 24 #[.int .u64 a, .int .u64 b]).run Tryz.prog w = .ok (.int .u64 (maxN a b : Nat)) w := by
 unfold maxN
 by_cases h : a < b
 · have h1 : (a : Int) < (b : Int) := by omega
   simp [Builtin.max_, Builtin.max2, h, h1]
 · have h1 : ¬ (a : Int) < (b : Int) := by omega
   simp [Builtin.max_, Builtin.max2, h, h1]
set_option maxHeartbeats 4000000
set_option maxRecDepth 100000
theorem cbegin_any {gc base n m call : Nat} {kind : Int} {c : Cm} {x : Rm} {F : List (List Int)} {body : List Int} {vt : Value} {R : List Rn} {least most limit r : Int} {mean : Nat} (w : World) (hc : Blk w gc 109 c.cells.toArray) (ho : c.Ok) (hF : FrIn w base c.fr F) (hb : base ≤ w.heap.size) (hf : F.length ≤ 1000) (hL : ShaIn 3 1 w) (hbg : 3 < base ∧ 1 < base ∧ base ≤ gc) (hx : x.cells.length = 28)
    (hT : Tm_l26 w base c.gt vt R least most limit mean) (hp : place_l26 R n = none) (hr : TickL mean least most r) (h1 : 1 ≤ least) (h3 : most ≤ 65536) (hR : R.length < 1000)
    (hput : ∀ W, ShaIn 3 1 W → Calls Tryz.prog 86 #[.agg (Rm.cells { x with seq := n }).toArray] W fun e w' => (∃ A d, e = .returned (.tuple #[.slice A m d, .nilIface]) ∧ w'.ownsRow W.heap.size 5 1 (.slice A m d) m (u8s body)) ∧ New W w')
    (hm : m ≤ 262119) (hbb : Byt body) (hs : c.sv.session < 18446744073709551616) (hn : n < 18446744073709551615) :
    Calls Tryz.prog 78 #[.pointer (some ⟨gc, 0, none⟩), .int .u64 n, .agg (itL call kind x true).toArray] w fun e w' => e = .returned (.tuple #[]) ∧
     ∃ v' vt', Blk w' gc 109 (Cm.cells { c with given := maxN c.given (n + 1), fr := v' }).toArray ∧ v'.oneCell' = true ∧ FrIn w' base v' (F ++ [frmL (linkK c.key) 1 c.sv.session body]) ∧
      Tm_l26 w' base c.gt vt' (R ++ [⟨n, tickZ c.now, tickZ c.now + r, r, 1⟩]) least most limit mean ∧ Fr (fun k => k = gc ∨ c.fr.ownBlock = some k ∨ k = c.gt ∨ vt.ownBlock = some k) w w' := by
 have HC := Lib.hid hc
 have HO := Lib.hid ho
 have HF := Lib.hid hF
 have HL := Lib.hid hL
 have HP := Lib.hid hput
 have HT := Lib.hid hT
 have HBY := Lib.hid (And.intro hbb (And.intro hb hf))
 have HX := Lib.hid hx
 have HSS := Lib.hid hs
 have HBG := Lib.hid hbg
 have HTP := Lib.hid (And.intro hp (And.intro hr (And.intro h1 (And.intro h3 hR))))
 have HA1 := Lib.hid (fun W b (h : Blk W b 115 (itL call kind x true).toArray) => (itL_at hx h).1)
 have HIL : Hid ((itL call kind x true).toArray.size = 31) := Lib.hid (by rw [List.size_toArray, itL_len hx])
 have HSD := Lib.hid (fun (c' : Cm) (W : World) (hc : Blk W gc 109 c'.cells.toArray) (ho : c'.Ok) (hF : FrIn W base c'.fr F) (hb : base ≤ W.heap.size) (hL : ShaIn 3 1 W) (hs : c'.sv.session < 18446744073709551616) => send_any (n := n) (call := call) (kind := kind) W hc ho hF hb hf hL hx (fun W' hN => hput W' (hL.new hN)) hm hbb hs)
 obtain ⟨IA, hIA⟩ := nm (itL call kind x true).toArray
 rw [← hIA] at HA1 HIL HSD ⊢
 have hn1 : IntKind.u64.wrap ((n : Int) + 1) = ((n + 1 : Nat) : Int) := by rw [IntKind.wrap_u64]; omega
 obtain ⟨n1, hn1'⟩ := nm (n + 1)
 have HN1' := Lib.hid hn1'
 rw [← hn1'] at hn1 ⊢
 have hmx := fun w => run_maxu c.given n1 w
 obtain ⟨gv, hgv⟩ := nm (maxN c.given n1)
 rw [← hgv] at hmx ⊢
 obtain ⟨cg, hcg⟩ := nm c.given
 have HCG := Lib.hid hcg
 rw [← hcg] at hmx
 clear hc ho hF hL hput hb hf hx hs hIA hbb hT hp hr h1 h3 hR hbg hn hn1' hgv hcg
 go_enter Tryz.func78, Tryz.ntmps78
 go_upto_region 1 with fail
 obtain ⟨b5, hb5⟩ := nm w.heap.size
 refine wp_world fun w1 hw1 => ?_
 have HN1 : Hid (New w w1) := Lib.hid (by rw [hw1.out]; exact New.al (New.refl _) _)
 have HB1 : Hid (Blk w1 b5 115 IA) := Lib.hid (by rw [hw1.out, hb5]; exact Blk.new _ _ _)
 have HG : Hid (gc < b5 ∧ w.heap.size ≤ b5) := Lib.hid ⟨by rw [hb5]; exact HC.out.lt, by omega⟩
 have HC1 : Hid (Blk w1 gc 109 c.cells.toArray) := Lib.hid (HN1.out.blk HC.out)
 rw [← hb5]
 clear hb5 hw1
 have c191 : w1.cell? ⟨gc, 191, none⟩ = some (.int .u64 cg) := by rw [HCG.out]; exact (ClAt.of HO.out HC1.out).tl 6 _ rfl
 have f191 : w1.frozen? ⟨gc, 191, none⟩ = false := HC1.out.frozen 191
 go_upto_region 2 with fail
 clear c191 f191
 refine wp_world fun w2 hw2 => ?_
 obtain ⟨c2, hc2⟩ : ∃ c2 : Cm, c2 = { c with given := gv } := ⟨_, rfl⟩
 have HO2 : Hid c2.Ok := Lib.hid (by rw [hc2]; exact ⟨HO.out.root, HO.out.sv, HO.out.fo, HO.out.oo⟩)
 have HC2 : Hid (Blk w2 gc 109 c2.cells.toArray) := Lib.hid (by
  have h := HC1.out.set 191 (.int .u64 gv)
  rw [Cm.set_given HO.out] at h
  rw [hw2.out, hc2]; exact h)
 have HE2 : Hid (c2 = { c with given := gv }) := Lib.hid hc2
 have HF12 : Hid (Fr (fun k => k = gc) w w2) := Lib.hid ((HN1.out.toFr _).trans (by rw [hw2.out]; exact (Fr.refl (fun k => k = gc) w1).setCell (fun _ => rfl) _))
 have HB2 : Hid (Blk w2 b5 115 IA) := Lib.hid (by rw [hw2.out]; exact HB1.out.far (by show b5 ≠ gc; have := HG.out; omega) _)
 have HL2 : Hid (ShaIn 3 1 w2) := Lib.hid (HL.out.fr HF12.out (by have := HBG.out; omega) (by have := HBG.out; omega))
 have HTg : Hid (c.gt ≠ gc ∧ (∀ k, vt.ownBlock = some k → k ≠ gc) ∧ (∀ k, c.fr.ownBlock = some k → k ≠ gc)) := Lib.hid ⟨Blk.ne_ HT.out.2.1 HC.out (by decide), fun k hk e => own_ne HT.out.2.2.1 HC.out (by decide) (by rw [hk, e]), fun k hk e => by
  obtain ⟨rs, h1, _⟩ := HF.out
  exact own_ne h1 HC.out (by decide) (by rw [hk, e])⟩
 have HT2 : Hid (Tm_l26 w2 base c.gt vt R least most limit mean) := Lib.hid (HT.out.fr HF12.out (fun e => HTg.out.1 e) (fun k hk e => HTg.out.2.1 k hk e))
 have HFR2 : Hid (FrIn w2 base c.fr F) := Lib.hid (HF.out.fr HF12.out (fun k hk e => HTg.out.2.2 k hk e) (fun k hk => by
  subst hk
  exact IsT.not_blk HC.out (by decide)))
 clear hw2 hc2 HC1 HB1
 have c30 := HA1.out _ _ HB2.out
 go_upto_region 3 with fail
 clear c30
 have c186 : ∀ W, ClAt gc c2 W → W.cell? ⟨gc, 186, none⟩ = some (.pointer (some ⟨c.gt, 0, none⟩)) := fun W h => by
  have := h.tl 1 _ rfl
  rw [HE2.out] at this
  exact this
 have c188 : ∀ W, ClAt gc c2 W → W.cell? ⟨gc, 188, none⟩ = some (.int .i64 c.now) := fun W h => by
  have := h.tl 3 _ rfl
  rw [HE2.out] at this
  exact this
 have HC186 := Lib.hid c186
 have HC188 := Lib.hid c188
 clear c186 c188
 have HD : Hid (Blk w2.drew gc 109 c2.cells.toArray ∧ Tm_l26 w2.drew base c.gt vt R least most limit mean) := Lib.hid ⟨HC2.out.drew, HT2.out.new (New.dr (New.refl w2))⟩
 refine wp_region_mixH (ClAt gc c2) [(true, 0), (true, 1), (true, 2), (true, 3), (true, 4), (true, 5), (true, 6), (true, 7), (true, 8), (false, 9)] (by kernel_rfl) (by kernel_rfl) (ClAt.of HO2.out HD.out.1) (fun hne => ?_)
 have q0 : ∀ p : HW (ClAt gc c2), p.w.cell? ⟨gc, 186, none⟩ = some (.pointer (some ⟨c.gt, 0, none⟩)) := fun p => HC186.out _ p.h
 have q1 : ∀ p : HW (ClAt gc c2), p.w.cell? ⟨gc, 188, none⟩ = some (.int .i64 c.now) := fun p => HC188.out _ p.h
 iterate 9 (refine mix_take (o := ⟨_, _, _, _, _, _⟩) rfl (fun K hK => ?_); go_simp; refine hK _ ?_; clear hK K)
 clear q0 q1
 refine mix_act (o := ⟨_, _, _, _, _, _⟩) rfl (fun K hK => ?_) (.inl rfl)
 go_simp
 refine (tstart_yes base c.gt vt R least most limit mean n c.now r w2.drew HD.out.2 HTP.out.1 HTP.out.2.1 HTP.out.2.2.1 HTP.out.2.2.2.1 HTP.out.2.2.2.2).mono ?_
 rintro e w3 ⟨rfl, vt', hT3, hF3, hV3⟩
 have HT3 := Lib.hid hT3
 have HF3 : Hid (Fr (fun k => k = c.gt ∨ vt.ownBlock = some k) w2 w3) := Lib.hid (((New.dr (New.refl w2)).toFr _).trans hF3)
 have HC3 : Hid (Blk w3 gc 109 c2.cells.toArray) := Lib.hid (HC2.out.fr HF3.out (fun h => h.elim (fun e => HTg.out.1 e.symm) (fun e => HTg.out.2.1 gc e rfl)))
 have HB3 : Hid (Blk w3 b5 115 IA) := Lib.hid (HB2.out.fr HF3.out (fun h => h.elim (fun e => Blk.ne_ HB2.out HT2.out.2.1 (by decide) e) (fun e => own_ne HT2.out.2.2.1 HB2.out (by decide) e)))
 have HFR3 : Hid (FrIn w3 base c.fr F) := Lib.hid (HFR2.out.fr HF3.out (fun k hk h => by
  obtain ⟨rs, h1, _⟩ := HFR2.out
  rcases h with h | h
  · exact own_ne h1 HT2.out.2.1 (by decide) (by rw [hk, h])
  · exact own_apart h1 HT2.out.2.2.1 (by decide) k hk h) (fun k hk => by
  rcases hk with rfl | hk
  · exact IsT.not_blk HT2.out.2.1 (by decide)
  · exact IsT.not_own HT2.out.2.2.1 (by decide) hk))
 have HL3 : Hid (ShaIn 3 1 w3) := Lib.hid (HL2.out.fr HF3.out (fun h => h.elim (fun e => by have h1 := HBG.out; have h2 := HT.out.1; omega) (fun e => by have h1 := HBG.out; have h2 := own_lt HT2.out.2.2.1 _ e; omega)) (fun h => h.elim (fun e => by have h1 := HBG.out; have h2 := HT.out.1; omega) (fun e => by have h1 := HBG.out; have h2 := own_lt HT2.out.2.2.1 _ e; omega)))
 clear hT3 hF3 hV3 HD HFR2 HT2
 go_simp
 refine hK.out _ _ (fun _ => ClAt.of HO2.out HC3.out) ?_
 clear hK K
 refine mix_done ?_
 go_wp2_with ((with_reducible refine atOp ⟨some 30, .load _ _, _, _, _, _⟩ ?_); refine wpList_load_any rfl _ rfl Tryz.underlying115 rfl (by rw [HIL.out]; rfl) rfl HB3.out ?_)
 have HS3 : Hid (Fr (fun k => k = gc ∨ c.fr.ownBlock = some k ∨ k = c.gt ∨ vt.ownBlock = some k) w w3) := Lib.hid ((HF12.out.mono fun b _ h => Or.inl h).trans (HF3.out.mono fun b _ h => h.elim (fun e => Or.inr (Or.inr (Or.inl e))) fun e => Or.inr (Or.inr (Or.inr e))))
 refine (HSD.out c2 w3 HC3.out HO2.out (by rw [HE2.out]; exact HFR3.out) (by have h1 := HS3.out.size; have h2 := HBY.out.2.1; omega) HL3.out (by rw [HE2.out]; exact HSS.out)).mono ?_
 rintro e w4 ⟨rfl, v', hC4, hv4, hF4, hfr4, hV4⟩
 have hfr : c2.fr = c.fr := by rw [HE2.out]
 have hlk : c2.key = c.key := by rw [HE2.out]
 have hsv : c2.sv = c.sv := by rw [HE2.out]
 rw [hlk, hsv] at hF4
 rw [hfr] at hfr4 hV4
 have HT4 : Hid (Tm_l26 w4 base c.gt vt' (R ++ [⟨n, tickZ c.now, tickZ c.now + r, r, 1⟩]) least most limit mean) := Lib.hid (HT3.out.fr hfr4 (fun h => h.elim (fun e => HTg.out.1 e) (fun e => by
  obtain ⟨rs, h1, _⟩ := HFR3.out
  exact own_ne h1 HT3.out.2.1 (by decide) e)) (fun k hk h => h.elim (fun e => own_ne HT3.out.2.2.1 HC3.out (by decide) (by rw [hk, e])) (fun e => by
  obtain ⟨rs, h1, _⟩ := HFR3.out
  exact own_apart HT3.out.2.2.1 h1 (by decide) k hk e)))
 have HC4 : Hid (Blk w4 gc 109 (Cm.cells { c with given := gv, fr := v' }).toArray) := Lib.hid (by
  rw [HE2.out] at hC4; exact hC4)
 have HF4 := Lib.hid hF4
 have HFF : Hid (Fr (fun k => k = gc ∨ c.fr.ownBlock = some k ∨ k = c.gt ∨ vt.ownBlock = some k) w w4) := Lib.hid (HS3.out.trans (hfr4.mono fun b _ h => h.elim (fun e => Or.inl e) fun e => Or.inr (Or.inl e)))
 clear hC4 hF4 hfr4 hV4 hfr hlk hsv
 go_wp2_with fail
 go_end0
 exact ⟨rfl, v', vt', HC4.out, hv4, HF4.out, HT4.out, HFF.out⟩
end Go.Proofs.YtmibndkofoldkaaGreatDoor
namespace Go.Proofs.YtmibndkofoldkaaGreatDoor
set_option linter.unusedVariables false
set_option linter.unusedSimpArgs false
set_option linter.constructorNameAsVariable false
open Go.RowKit Go.Sort Go.Maps
set_option maxHeartbeats 4000000
set_option maxRecDepth 100000
theorem cadd_any {gc base nx m call : Nat} {kind : Int} {c : Cm} {x : Rm} {F : List (List Int)} {body : List Int} {vt vw : Value} {R : List Rn} {L : List Wr} {least most limit r : Int} {mean : Nat} (w : World) (hc : Blk w gc 109 c.cells.toArray) (ho : c.Ok) (hF : FrIn w base c.fr F) (hf : F.length ≤ 1000) (hL : ShaIn 3 1 w) (hbg : 3 < base ∧ 1 < base ∧ base ≤ gc) (hx : x.cells.length = 28)
    (hW : WinC w base c.gw vw L nx) (hl : L.length < 32)
    (hT : Tm_l26 w base c.gt vt R least most limit mean) (hp : place_l26 R nx = none) (hr : TickL mean least most r) (h1 : 1 ≤ least) (h3 : most ≤ 65536) (hR : R.length < 1000)
    (hput : ∀ W, ShaIn 3 1 W → Calls Tryz.prog 86 #[.agg (Rm.cells { x with seq := nx }).toArray] W fun e w' => (∃ A d, e = .returned (.tuple #[.slice A m d, .nilIface]) ∧ w'.ownsRow W.heap.size 5 1 (.slice A m d) m (u8s body)) ∧ New W w')
    (hm : m ≤ 262119) (hbb : Byt body) (hs : c.sv.session < 18446744073709551616) (hn : nx < 18446744073709551615) :
    Calls Tryz.prog 43 #[.pointer (some ⟨gc, 0, none⟩), .agg (itL call kind x true).toArray] w fun e w' => e = .returned (.tuple #[]) ∧
     ∃ v' vt' vw', Blk w' gc 109 (Cm.cells { c with given := maxN c.given (nx + 1), fr := v' }).toArray ∧ v'.oneCell' = true ∧ FrIn w' base v' (F ++ [frmL (linkK c.key) 1 c.sv.session body]) ∧
      Tm_l26 w' base c.gt vt' (R ++ [⟨nx, tickZ c.now, tickZ c.now + r, r, 1⟩]) least most limit mean ∧ WinC w' base c.gw vw' (L ++ [⟨nx, itL call kind x true, rp0, false⟩]) (nx + 1) ∧
      Fr (fun k => k = gc ∨ c.fr.ownBlock = some k ∨ k = c.gt ∨ vt.ownBlock = some k ∨ k = c.gw ∨ vw.ownBlock = some k) w w' := by
 have HC := Lib.hid hc
 have HO := Lib.hid ho
 have HF := Lib.hid hF
 have HL := Lib.hid hL
 have HT := Lib.hid hT
 have HWI := Lib.hid hW
 have HBG := Lib.hid hbg
 have HNL := Lib.hid (And.intro hn hl)
 have HIT : Hid ((itL call kind x true).length = 31 ∧ ∀ v ∈ itL call kind x true, v.oneCell' = true) := Lib.hid ⟨itL_len hx, itL_one _ _ _ _⟩
 have HBE := Lib.hid (fun (W : World) (hc : Blk W gc 109 c.cells.toArray) (hF : FrIn W base c.fr F) (hb : base ≤ W.heap.size) (hL : ShaIn 3 1 W) (hT : Tm_l26 W base c.gt vt R least most limit mean) => cbegin_any (n := nx) (call := call) (kind := kind) W hc ho hF hb hf hL hbg hx hT hp hr h1 h3 hR hput hm hbb hs hn)
 have HWA := Lib.hid (fun (W : World) (hW : WinC W base c.gw vw L nx) => wadd_any (itL call kind x true) W hW hl hn HIT.out)
 obtain ⟨IL, hIL⟩ := nm (itL call kind x true)
 rw [← hIL] at HIT HBE HWA ⊢
 have HSEP : Hid ((c.gt ≠ gc ∧ c.gw ≠ gc ∧ c.gt ≠ c.gw) ∧ (∀ k, vw.ownBlock = some k → k ≠ gc ∧ k ≠ c.gt ∧ vt.ownBlock ≠ some k ∧ c.fr.ownBlock ≠ some k ∧ ¬ IsT 5 w k) ∧ (∀ k, c.fr.ownBlock = some k → k ≠ c.gw) ∧ (∀ k, vt.ownBlock = some k → k ≠ c.gw)) := Lib.hid (by
  obtain ⟨rs, hr1, _⟩ := hF
  refine ⟨⟨Blk.ne_ hT.2.1 hc (by decide), Blk.ne_ hW.2.1 hc (by decide), Blk.ne_ hT.2.1 hW.2.1 (by decide)⟩, fun k hk => ⟨?_, ?_, ?_, ?_, ?_⟩, fun k hk e => ?_, fun k hk e => ?_⟩
  · exact fun e => own_ne hW.2.2.1 hc (by decide) (by rw [hk, e])
  · exact fun e => own_ne hW.2.2.1 hT.2.1 (by decide) (by rw [hk, e])
  · exact fun e => own_apart hW.2.2.1 hT.2.2.1 (by decide) k hk e
  · exact fun e => own_apart hW.2.2.1 hr1 (by decide) k hk e
  · exact IsT.not_own hW.2.2.1 (by decide) hk
  · exact own_ne hr1 hW.2.1 (by decide) (by rw [hk, e])
  · exact own_ne hT.2.2.1 hW.2.1 (by decide) (by rw [hk, e]))
 clear hc ho hF hL hput hf hx hs hbb hT hp hr h1 h3 hR hbg hn hl hW hIL
 go_enter Tryz.func43, Tryz.ntmps43
 go_upto_region 1 with fail
 obtain ⟨b3, hb3⟩ := nm w.heap.size
 refine wp_world fun w1 hw1 => ?_
 have hN1 : New w w1.drew := by rw [hw1.out]; exact (New.al (New.refl _) _).dr
 have HN1 := Lib.hid hN1
 have HB1 : Hid (Blk w1.drew b3 115 IL.toArray) := Lib.hid (by rw [hw1.out, hb3]; exact (Blk.new _ _ _).drew)
 have HG : Hid (gc < b3 ∧ w.heap.size ≤ b3) := Lib.hid ⟨by rw [hb3]; exact HC.out.lt, by omega⟩
 have HC1 : Hid (Blk w1.drew gc 109 c.cells.toArray) := Lib.hid (hN1.blk HC.out)
 have HW1 := Lib.hid (HWI.out.new hN1)
 have HT1 := Lib.hid (HT.out.new hN1)
 have HF1 := Lib.hid (HF.out.new hN1)
 have HL1 := Lib.hid (HL.out.new hN1)
 rw [← hb3]
 clear hb3 hw1 hN1
 have HC185 : Hid (∀ W, ClAt gc c W → W.cell? ⟨gc, 185, none⟩ = some (.pointer (some ⟨c.gw, 0, none⟩))) := Lib.hid (fun W h => h.tl 0 _ rfl)
 refine wp_region_mixH (fun w' => ClAt gc c w' ∧ Blk w' b3 115 IL.toArray) [(true, 0), (true, 1), (true, 2), (true, 3), (true, 4), (false, 5), (true, 6), (true, 7), (true, 8), (true, 9), (true, 10)] (by kernel_rfl) (by kernel_rfl) ⟨ClAt.of HO.out HC1.out, HB1.out⟩ (fun hne => ?_)
 have q0 : ∀ p : HW (fun w' => ClAt gc c w' ∧ Blk w' b3 115 IL.toArray), p.w.cell? ⟨gc, 185, none⟩ = some (.pointer (some ⟨c.gw, 0, none⟩)) := fun p => HC185.out _ p.h.1
 iterate 4 (refine mix_take (o := ⟨_, _, _, _, _, _⟩) rfl (fun K hK => ?_); go_simp; refine hK _ ?_; clear hK K)
 clear q0
 refine mix_take_row (cs := IL) (o := ⟨_, _, _, _, _, _⟩) rfl rfl (.tmp 3) rfl rfl (fun w' h => Blk.rangeOf h.2) Tryz.underlying115 rfl (by rw [HIT.out.1]; rfl) ?_
 refine mix_act (o := ⟨_, _, _, _, _, _⟩) rfl (fun K hK => ?_) (.inl rfl)
 go_simp
 refine (HWA.out _ HW1.out).mono ?_
 rintro e w2 ⟨rfl, vw', hW2, hF2, hV2⟩
 have HW2 := Lib.hid hW2
 have HF12 := Lib.hid hF2
 have HC2 : Hid (Blk w2 gc 109 c.cells.toArray) := Lib.hid (HC1.out.fr hF2 (fun h => h.elim (fun e => HSEP.out.1.2.1 e.symm) (fun e => (HSEP.out.2.1 gc e).1 rfl)))
 have HB2 : Hid (Blk w2 b3 115 IL.toArray) := Lib.hid (HB1.out.fr hF2 (fun h => h.elim (fun e => Blk.ne_ HB1.out HW1.out.2.1 (by decide) e) (fun e => own_ne HW1.out.2.2.1 HB1.out (by decide) e)))
 have HT2 : Hid (Tm_l26 w2 base c.gt vt R least most limit mean) := Lib.hid (HT1.out.fr hF2 (fun h => h.elim (fun e => HSEP.out.1.2.2 e) (fun e => (HSEP.out.2.1 _ e).2.1 rfl)) (fun k hk h => h.elim (fun e => HSEP.out.2.2.2 k hk e) (fun e => (HSEP.out.2.1 k e).2.2.1 hk)))
 have HFR2 : Hid (FrIn w2 base c.fr F) := Lib.hid (HF1.out.fr hF2 (fun k hk h => h.elim (fun e => HSEP.out.2.2.1 k hk e) (fun e => (HSEP.out.2.1 k e).2.2.2.1 hk)) (fun k hk => hk.elim (fun e => by subst e; exact IsT.not_blk HW1.out.2.1 (by decide)) (fun e => IsT.not_own HW1.out.2.2.1 (by decide) e)))
 have HL2 : Hid (ShaIn 3 1 w2) := Lib.hid (HL1.out.fr hF2 (fun h => h.elim (fun e => by have h1 := HBG.out; have h2 := HWI.out.1; omega) (fun e => by have h1 := HBG.out; have h2 := own_lt HW1.out.2.2.1 _ e; omega)) (fun h => h.elim (fun e => by have h1 := HBG.out; have h2 := HWI.out.1; omega) (fun e => by have h1 := HBG.out; have h2 := own_lt HW1.out.2.2.1 _ e; omega)))
 have HFa : Hid (Fr (fun k => k = c.gw ∨ vw.ownBlock = some k) w w2) := Lib.hid ((HN1.out.toFr _).trans hF2)
 have HVW : Hid (∀ k, vw'.ownBlock = some k → k ≠ gc ∧ k ≠ c.gt ∧ vt.ownBlock ≠ some k ∧ c.fr.ownBlock ≠ some k) := Lib.hid (fun k hk => by
  obtain ⟨rs, hr1, _⟩ := HFR2.out
  refine ⟨?_, ?_, ?_, ?_⟩
  · exact fun e => own_ne hW2.2.2.1 HC2.out (by decide) (by rw [hk, e])
  · exact fun e => own_ne hW2.2.2.1 HT2.out.2.1 (by decide) (by rw [hk, e])
  · exact fun e => own_apart hW2.2.2.1 HT2.out.2.2.1 (by decide) k hk e
  · exact fun e => own_apart hW2.2.2.1 hr1 (by decide) k hk e)
 clear hW2 hF2 hV2 HC1 HB1 HT1 HF1 HL1 HW1
 go_simp
 refine hK.out _ _ (fun _ => ⟨ClAt.of HO.out HC2.out, HB2.out⟩) ?_
 clear hK K
 iterate 5 (refine mix_take (o := ⟨_, _, _, _, _, _⟩) rfl (fun K hK => ?_); go_simp; refine hK _ ?_; clear hK K)
 refine mix_done ?_
 go_wp2_with ((with_reducible refine atOp ⟨some 19, .load _ _, _, _, _, _⟩ ?_); refine wpList_load_any rfl _ rfl Tryz.underlying115 rfl (by rw [List.size_toArray, HIT.out.1]; rfl) rfl HB2.out ?_)
 refine (HBE.out w2 HC2.out HFR2.out (by have h1 := HC2.out.lt; have h2 := HBG.out; omega) HL2.out HT2.out).mono ?_
 rintro e w3 ⟨rfl, v', vt', hC3, hv3, hF3, hT3, hfr3⟩
 have HC3 := Lib.hid hC3
 have HF3 := Lib.hid hF3
 have HT3 := Lib.hid hT3
 have HW3 : Hid (WinC w3 base c.gw vw' (L ++ [⟨nx, IL, rp0, false⟩]) (nx + 1)) := Lib.hid (HW2.out.fr hfr3 (fun h => by
  rcases h with h | h | h | h
  · exact HSEP.out.1.2.1 h
  · exact HSEP.out.2.2.1 _ h rfl
  · exact HSEP.out.1.2.2 h.symm
  · exact HSEP.out.2.2.2 _ h rfl) (fun k hk h => by
  obtain ⟨h1, h2, h3, h4⟩ := HVW.out k hk
  rcases h with h | h | h | h
  · exact h1 h
  · exact h4 h
  · exact h2 h
  · exact h3 h))
 have HFF : Hid (Fr (fun k => k = gc ∨ c.fr.ownBlock = some k ∨ k = c.gt ∨ vt.ownBlock = some k ∨ k = c.gw ∨ vw.ownBlock = some k) w w3) := Lib.hid ((HFa.out.mono fun b _ h => Or.inr (Or.inr (Or.inr (Or.inr h)))).trans (hfr3.mono fun b _ h => by
  rcases h with h | h | h | h
  · exact Or.inl h
  · exact Or.inr (Or.inl h)
  · exact Or.inr (Or.inr (Or.inl h))
  · exact Or.inr (Or.inr (Or.inr (Or.inl h)))))
 clear hC3 hF3 hT3 hfr3
 go_wp2_with fail
 go_end0
 exact ⟨rfl, v', vt', vw', HC3.out, hv3, HF3.out, HT3.out, HW3.out, HFF.out⟩
end Go.Proofs.YtmibndkofoldkaaGreatDoor
namespace Go.Proofs.YtmibndkofoldkaaGreatDoor
set_option linter.unusedVariables false
set_option linter.unusedSimpArgs false
set_option linter.constructorNameAsVariable false
open Go.RowKit Go.Sort Go.Maps
set_option maxHeartbeats 4000000
set_option maxRecDepth 100000
theorem rq_built4 (e : Nat) : Tryz.prog.built 91 [(1, .int .i64 4), (6, .int .u64 e)] = some (rmE 0 4 e).cells.toArray := by kernel_rfl
theorem itPl : (Tryz.prog.fieldsOf 115).toList.mapM (fun f => (Tryz.prog.info? f.type).map fun i => (f.offset, i.size)) = some [(0, 1), (1, 1), (2, 28), (30, 1)] := by kernel_rfl
theorem itIn : (Tryz.prog.info? 115).map (fun i => (i.zero, i.size)) = some (some (.agg (itL 0 0 (rmE 0 0 0) false).toArray), 31) := by kernel_rfl
theorem it_built4 {x : Rm} (h : x.cells.length = 28) : Tryz.prog.built 115 [(3, .bool true), (2, .agg x.cells.toArray)] = some (itL 0 0 x true).toArray := by
 rw [built_struct Tryz.underlying115 itIn itPl]
 have hl : (itL 0 0 (rmE 0 0 0) false).length = 31 := by kernel_rfl
 have he : (itL 0 0 (rmE 0 0 0) false).set 30 (.bool true) = itL 0 0 (rmE 0 0 0) true := by kernel_rfl
 rw [fill_cell (off := 30) rfl rfl (by rw [hl]; decide), he, fill_one (off := 2) (ys := x.cells) (by rw [h]; rfl) rfl (by rw [h]; show 30 ≤ 31; decide), fill_nil]
 have h1 := splice_app (a := [Value.int .u64 0, .int .i64 0]) (b := (rmE 0 0 0).cells ++ [.bool true]) (ys := x.cells) (o := 2) (k := 0) rfl
 rw [splice_fst (by rw [h]; rfl)] at h1
 exact congrArg (fun l : List Value => some l.toArray) h1
theorem rmE_len (s k e : Nat) : (rmE s k e).cells.length = 28 := by kernel_rfl
theorem cchain_any {gc base nx : Nat} {c : Cm} {F : List (List Int)} {vt vw : Value} {R : List Rn} {L : List Wr} {least most limit r : Int} {mean : Nat} (w : World) (hc : Blk w gc 109 c.cells.toArray) (ho : c.Ok) (hF : FrIn w base c.fr F) (hf : F.length ≤ 1000) (hL : ShaIn 3 1 w) (hbg : 3 < base ∧ 1 < base ∧ base ≤ gc)
    (hW : WinC w base c.gw vw L nx) (hl : L.length < 32)
    (hT : Tm_l26 w base c.gt vt R least most limit mean) (hp : place_l26 R nx = none) (hr : TickL mean least most r) (h1 : 1 ≤ least) (h3 : most ≤ 65536) (hR : R.length < 1000)
    (hs : c.sv.session < 18446744073709551616) (he : c.epoch < 18446744073709551616) (hn : nx < 18446744073709551615) :
    Calls Tryz.prog 61 #[.pointer (some ⟨gc, 0, none⟩)] w fun e w' => e = .returned (.tuple #[]) ∧
     ∃ v' vt' vw', Blk w' gc 109 (Cm.cells { c with given := maxN c.given (nx + 1), fr := v' }).toArray ∧ v'.oneCell' = true ∧ FrIn w' base v' (F ++ [frmL (linkK c.key) 1 c.sv.session (rqE nx 4 c.epoch)]) ∧
      Tm_l26 w' base c.gt vt' (R ++ [⟨nx, tickZ c.now, tickZ c.now + r, r, 1⟩]) least most limit mean ∧ WinC w' base c.gw vw' (L ++ [⟨nx, itL 0 0 (rmE 0 4 c.epoch) true, rp0, false⟩]) (nx + 1) ∧
      Fr (fun k => k = gc ∨ c.fr.ownBlock = some k ∨ k = c.gt ∨ vt.ownBlock = some k ∨ k = c.gw ∨ vw.ownBlock = some k) w w' := by
 have HA := Lib.hid (cadd_any (nx := nx) (m := 17) (call := 0) (kind := 0) (x := rmE 0 4 c.epoch) (body := rqE nx 4 c.epoch) w hc ho hF hf hL hbg (rmE_len _ _ _) hW hl hT hp hr h1 h3 hR
  (fun W _ => put_epoch (x := rmE nx 4 c.epoch) (P := fun _ => True) (Q := fun _ => True) W (rmE_in _ _ _ _) 4 rfl (.inl rfl) rfl rfl rfl rfl (by show nx < _; omega) he) (by decide) (rqE_byt _ _ _) hs hn)
 have HB := Lib.hid (rq_built4 c.epoch)
 have HI := Lib.hid (it_built4 (rmE_len 0 4 c.epoch))
 have c33 : w.cell? ⟨gc, 33, none⟩ = some (.int .u64 c.epoch) := (ClAt.of ho hc).epoch
 obtain ⟨XA, hXA⟩ := nm (rmE 0 4 c.epoch).cells.toArray
 obtain ⟨IA, hIA⟩ := nm (itL 0 0 (rmE 0 4 c.epoch) true).toArray
 rw [← hXA] at HB HI
 rw [← hIA] at HI HA
 clear hc ho hF hf hL hbg hW hl hT hp hr h1 h3 hR hs he hn hXA hIA
 go_enter Tryz.func61, Tryz.ntmps61
 go_wp2_with (first
  | ((with_reducible refine atOp ⟨some 8, .build _ _, _, _, _, _⟩ ?_); refine wpList_built rfl 91 [(1, .const (.int .i64 4)), (6, .tmp 7)] rfl [(1, .int .i64 4), (6, .int .u64 c.epoch)] rfl XA HB.out ?_)
  | ((with_reducible refine atOp ⟨some 9, .build _ _, _, _, _, _⟩ ?_); refine wpList_built rfl 115 [(3, .const (.bool true)), (2, .tmp 8)] rfl [(3, .bool true), (2, .agg XA)] rfl IA HI.out ?_))
 refine HA.out.mono ?_
 rintro e w2 ⟨rfl, v', vt', vw', h⟩
 have H := Lib.hid h
 clear h
 go_wp2_with fail
 go_end0
 exact ⟨rfl, v', vt', vw', H.out⟩
end Go.Proofs.YtmibndkofoldkaaGreatDoor
namespace Go.Proofs.YtmibndkofoldkaaGreatDoor
set_option linter.unusedVariables false
set_option linter.unusedSimpArgs false
set_option linter.constructorNameAsVariable false
open Go.RowKit Go.Sort
theorem zero37 : (#[.int .u8 0, .int .u8 0, .int .u8 0, .int .u8 0, .int .u8 0, .int .u8 0, .int .u8 0, .int .u8 0, .int .u8 0, .int .u8 0, .int .u8 0, .int .u8 0, .int .u8 0, .int .u8 0, .int .u8 0, .int .u8 0, .int .u8 0, .int .u8 0, .int .u8 0, .int .u8 0, .int .u8 0, .int .u8 0, .int .u8 0, .int .u8 0, .int .u8 0, .int .u8 0, .int .u8 0, .int .u8 0, .int .u8 0, .int .u8 0, .int .u8 0, .int .u8 0, .int .u64 0, .int .u64 0, .int .u64 0, .int .u64 0, .int .u64 0] : Array Value) = rc0.cells := by kernel_rfl
set_option maxHeartbeats 1000000
set_option maxRecDepth 100000
theorem kget_nil (w : World) : Calls Tryz.prog 55 #[.pointer none] w fun e w' => e = .returned (.tuple #[.agg rc0.cells, .bool false]) ∧ New w w' := by
 go_enter Tryz.func55, Tryz.ntmps55
 go_upto_region 2 with fail
 obtain ⟨w1, hw1⟩ : ∃ w1 : World, w1 = w.alloc (.cells #[.int .u8 0, .int .u8 0, .int .u8 0, .int .u8 0, .int .u8 0, .int .u8 0, .int .u8 0, .int .u8 0, .int .u8 0, .int .u8 0, .int .u8 0, .int .u8 0, .int .u8 0, .int .u8 0, .int .u8 0, .int .u8 0, .int .u8 0, .int .u8 0, .int .u8 0, .int .u8 0, .int .u8 0, .int .u8 0, .int .u8 0, .int .u8 0, .int .u8 0, .int .u8 0, .int .u8 0, .int .u8 0, .int .u8 0, .int .u8 0, .int .u8 0, .int .u8 0, .int .u64 0, .int .u64 0, .int .u64 0, .int .u64 0, .int .u64 0] 63) := ⟨_, rfl⟩
 obtain ⟨b2, hb2⟩ : ∃ b2, b2 = w.heap.size := ⟨_, rfl⟩
 have HN1 : Hid (New w w1) := Lib.hid (by rw [hw1]; exact New.al (New.refl _) _)
 have HB2 : Hid (Blk w1 b2 63 rc0.cells) := Lib.hid (by rw [hw1, hb2, zero37]; exact Blk.new _ _ _)
 have HZ : Hid (b2 = w.heap.size) := Lib.hid hb2
 rw [← hw1, ← hb2]
 clear hw1 hb2
 go_wp2_with ((with_reducible refine atOp ⟨none, .store 63 (.tmp 2) _, _, _, _, _⟩ ?_); rw [zero37]; refine wpList_store_any rfl (.tmp 2) (.tmp 6) rfl (by rfl) rfl rfl HB2.out rfl (Rc.one _) ?_; intro w2 hb2 hf2; have HB22 := Lib.hid hb2; have HF2 := Lib.hid hf2; clear hb2 hf2)
 exact bodyPost_ret (results_row2h rfl _ _ b2 _ _ rfl HB22.out Tryz.underlying63 rfl (by rfl)) rfl ⟨rfl, HN1.out.fr HF2.out (fun k hk => by have := HZ.out; omega)⟩
theorem kget_kp {w : World} {gk gd : Nat} {k : KR} (h : Kp w gk gd k) : Calls Tryz.prog 55 #[.pointer (some ⟨gk, 0, none⟩)] w fun e w' => e = .returned (.tuple #[.agg k.now.cells, .bool (decide (0 < k.number))]) ∧ New w w' := by
 have H := Lib.hid h
 have HSZ : Hid (k.now.cells.size = 37) := Lib.hid (Rc.size h.ok.now.len)
 clear h
 go_enter Tryz.func55, Tryz.ntmps55
 go_upto_region 3 with fail
 obtain ⟨w1, hw1⟩ : ∃ w1 : World, w1 = w.alloc (.cells #[.int .u8 0, .int .u8 0, .int .u8 0, .int .u8 0, .int .u8 0, .int .u8 0, .int .u8 0, .int .u8 0, .int .u8 0, .int .u8 0, .int .u8 0, .int .u8 0, .int .u8 0, .int .u8 0, .int .u8 0, .int .u8 0, .int .u8 0, .int .u8 0, .int .u8 0, .int .u8 0, .int .u8 0, .int .u8 0, .int .u8 0, .int .u8 0, .int .u8 0, .int .u8 0, .int .u8 0, .int .u8 0, .int .u8 0, .int .u8 0, .int .u8 0, .int .u8 0, .int .u64 0, .int .u64 0, .int .u64 0, .int .u64 0, .int .u64 0] 63) := ⟨_, rfl⟩
 obtain ⟨b2, hb2⟩ : ∃ b2, b2 = w.heap.size := ⟨_, rfl⟩
 have HN1 : Hid (New w w1) := Lib.hid (by rw [hw1]; exact New.al (New.refl _) _)
 have HB2 : Hid (Blk w1 b2 63 rc0.cells) := Lib.hid (by rw [hw1, hb2, zero37]; exact Blk.new _ _ _)
 have HZ : Hid (b2 = w.heap.size) := Lib.hid hb2
 rw [← hw1, ← hb2]
 clear hw1 hb2
 have HK1 : Hid (Kp w1 gk gd k) := Lib.hid (H.out.new HN1.out)
 refine wp_region_mixH (fun w' => Kp w' gk gd k) [(true, 0), (true, 1), (true, 2), (true, 3), (true, 4), (true, 5), (true, 6), (true, 7), (true, 8), (false, 9), (true, 10)] (by kernel_rfl) (by kernel_rfl) (HK1.out.new (New.dr (New.refl w1))) (fun hne => ?_)
 have q1 : ∀ p : HW (fun w' => Kp w' gk gd k), p.w.cell? ⟨gk, 1, none⟩ = some (.int .u64 k.number) := fun p => p.h.c1
 iterate 3 (refine mix_take (o := ⟨_, _, _, _, _, _⟩) rfl (fun K hK => ?_); go_simp; refine hK _ ?_; clear hK K)
 refine mix_take_row (o := ⟨_, _, _, _, _, _⟩) (cs := k.now.cells.toList) rfl rfl _ rfl rfl (fun w' h => h.nowAt) Tryz.underlying63 rfl (by rw [Array.length_toList, HSZ.out]; rfl) ?_
 iterate 5 (refine mix_take (o := ⟨_, _, _, _, _, _⟩) rfl (fun K hK => ?_); go_simp; refine hK _ ?_; clear hK K)
 refine mix_store (o := ⟨_, _, _, _, _, _⟩) (cs := k.now.cells) rfl rfl (.tmp 2) (.tmp 10) rfl (by rw [HSZ.out]; rfl) rfl rfl ((New.dr (New.refl w1)).blk HB2.out) (by rw [HSZ.out]; rfl) (Rc.one _) ?_
 intro w2 hb2 hf2
 have HB22 := Lib.hid hb2
 have HF2 := Lib.hid (Fr.ofDrew hf2)
 have HK2 : Hid (Kp w2 gk gd k) := Lib.hid (HK1.out.fr (Fr.ofDrew hf2) (by have := HZ.out; have := H.out.blk.lt; omega))
 clear hb2 hf2
 refine ⟨fun _ => HK2.out, ?_⟩
 iterate 1 (refine mix_take (o := ⟨_, _, _, _, _, _⟩) rfl (fun K hK => ?_); go_simp; refine hK _ ?_; clear hK K)
 refine mix_done ?_
 go_wp2_with fail
 exact bodyPost_ret (results_row2h rfl _ _ b2 _ _ rfl HB22.out Tryz.underlying63 rfl (by rw [HSZ.out]; rfl)) rfl ⟨rfl, HN1.out.fr HF2.out (fun k hk => by have := HZ.out; omega)⟩
end Go.Proofs.YtmibndkofoldkaaGreatDoor
namespace Go.Proofs.YtmibndkofoldkaaGreatDoor
set_option linter.unusedVariables false
set_option linter.unusedSimpArgs false
set_option linter.constructorNameAsVariable false
open Go.RowKit Go.Sort
theorem wpList_arr_l27 {P : Program} {ops : Array Oper} {rest : List Oper} {o : Oper} {a : Act} {w : World} {Q : Exit → Act → World → Prop} {T e : TypeId} {n len cap : Nat} {A : Option Addr} (hw : Region.wanted o (yielded ops a.tmps) = true) (x : Operand) (hop : o.op = .sliceToArrayPointer T x) (hx : a.eval x = .slice A len cap)
    (hu : P.underlying T = some (.array n e)) (hn : n ≤ len) (h : wpList P ops Q rest (a.put o.dst (.pointer A)) w) : wpList P ops Q (o :: rest) a w :=
 wpList_want hw fun K hK => by
  unfold Oper.wp execOp
  simp only [hop, hx, Sem.run_bind, run_arrayAt (P := P) (w := w) T e n A len cap hu hn, Result.andThen_ok, Sem.run_pure]
  exact hK _ _ h
theorem kp_apart {w : World} {base gk g bs bf : Nat} {v : Value} {p : DP} {k : KR} (h : Dk w base g bs bf v p) (hk : Kp w gk g k) : ¬ DkOurs g bs bf v gk :=
 dk_notBlk h hk.blk (fun e => Blk.ne_ (g := gk) (g' := g) hk.blk h.blk (by decide) e) (by decide)
def WrSays (w : World) (base g bs bf : Nat) (v : Value) (r : DP × Int) (e : Ending) (w' : World) : Prop := e = .returned (errD r.2) ∧ ∃ v', DkTo w base g bs bf v r.1 w' v'
def RdAt (gk gd b8 : Nat) (s : List Int) (w : World) : Prop := w.cell? ⟨gk, 0, none⟩ = some (.pointer (some ⟨gd, 0, none⟩)) ∧ Blk w b8 154 (secA s)
set_option maxHeartbeats 3000000 in
set_option maxRecDepth 100000 in
theorem kwrite_any {w : World} {gk gd base bs bf : Nat} {v : Value} {p : DP} {k : KR} (h : Kp w gk gd k) (hD : Dk w base gd bs bf v p) (n : Nat) (hn : n < 18446744073709551616) (all : List Int) (hl : all.length = 128) (hb : Byt all) :
    Calls Tryz.prog 108 #[.pointer (some ⟨gk, 0, none⟩), .int .u64 n, .agg (secA all)] w (WrSays w base gd bs bf v (writeP p n all)) := by
 have HKP := Lib.hid h
 have HAP : Hid (¬ DkOurs gd bs bf v gk) := Lib.hid (kp_apart hD h)
 have HSK : Hid (∀ i, i < 2 → SecOk (sec2 all i)) := Lib.hid (fun i hi => sec2_ok hl hb hi)
 obtain ⟨m, hm⟩ : ∃ m, m = n % 2 := ⟨_, rfl⟩
 have HM := Lib.hid hm
 have e0 : (n : Int).tmod 2 = (m : Int) := by rw [Int.tmod_eq_emod_of_nonneg (by omega)]; omega
 have z0 : IntKind.i64.wrap 0 = 0 := by decide
 have z1 : IntKind.i64.wrap 1 = 1 := by decide
 have z2 : IntKind.i64.wrap 2 = 2 := by decide
 have z64 : IntKind.i64.wrap 64 = 64 := by decide
 have z128 : IntKind.i64.wrap 128 = 128 := by decide
 have hm2 : m < 2 := by omega
 obtain ⟨m2, hm2'⟩ : ∃ m2, m2 = 2 * m := ⟨_, rfl⟩
 have HM2 := Lib.hid hm2'
 have e1 : IntKind.i64.wrap (m : Int) = (m : Int) := IntWalk.i64_in _ (by omega)
 have e2 : 2 * (m : Int) = (m2 : Int) := by omega
 have e3 : IntKind.i64.wrap (m2 : Int) = (m2 : Int) := IntWalk.i64_in _ (by omega)
 obtain ⟨m3, hm3⟩ : ∃ m3, m3 = m2 + 1 := ⟨_, rfl⟩
 have HM3 := Lib.hid hm3
 have e4 : (m2 : Int) + 1 = (m3 : Int) := by omega
 have e5 : IntKind.i64.wrap (m3 : Int) = (m3 : Int) := IntWalk.i64_in _ (by omega)
 obtain ⟨WP, hWP⟩ : ∃ WP, WP = writeP p n all := ⟨_, rfl⟩
 rw [← hWP]
 have HWP : Hid (WP = (if (writeQ p n all 2).2 ≠ 0 then writeQ p n all 2 else ((writeQ p n all 2).1.doSync, (writeQ p n all 2).1.scode))) := Lib.hid (by rw [hWP]; rfl)
 have HD := Lib.hid hD
 obtain ⟨AL, hAL⟩ : ∃ AL, AL = secA all := ⟨_, rfl⟩
 have HAL := Lib.hid hAL
 rw [← hAL]
 clear h hD hn hl hb hm hm2' hm3 hWP hAL
 go_enter Tryz.func108, Tryz.ntmps108
 go_upto_region 1 with fail
 obtain ⟨w1, hw1⟩ : ∃ w1 : World, w1 = w.alloc (.cells AL 220) := ⟨_, rfl⟩
 obtain ⟨b5, hb5⟩ : ∃ b5, b5 = w.heap.size := ⟨_, rfl⟩
 have HN1 : Hid (New w w1) := Lib.hid (by rw [hw1]; exact New.al (New.refl _) _)
 have HB5 : Hid (Blk w1 b5 220 (secA all)) := Lib.hid (by rw [hw1, hb5, HAL.out]; exact Blk.new _ _ _)
 have HZ : Hid (b5 = w.heap.size ∧ gk < w.heap.size ∧ gd < w.heap.size) := Lib.hid ⟨hb5, HKP.out.blk.lt, HD.out.blk.lt⟩
 rw [← hw1, ← hb5]
 clear hw1 hb5
 have HD0 : Hid (DkTo w base gd bs bf v p w1 v) := Lib.hid (DkTo.same HD.out HN1.out)
 go_wp2_with fail
 go_loopw [10] (fun i wr => ∃ (j : Nat) (v' : Value), Hid (j ≤ 2) ∧ i = .int .i64 (j : Int) ∧ Hid ((writeQ p n all j).2 = 0) ∧ Hid (DkTo w base gd bs bf v (writeQ p n all j).1 wr v') ∧ Hid (Blk wr b5 220 (secA all))) (fun i _ => 2 - (intOf i).toNat)
 case atStart => exact ⟨0, v, Lib.hid (by omega), rfl, Lib.hid rfl, HD0, HB5⟩
 case round =>
  clear HD0 HB5
  obtain ⟨j, v', HJ, rfl, HE, HD, HB5⟩ := hrel
  have HC0 : Hid (wr.cell? ⟨gk, 0, none⟩ = some (.pointer (some ⟨gd, 0, none⟩))) := Lib.hid (HD.out.fr.cell_some HKP.out.c0 HAP.out)
  rcases (show j = 0 ∨ j = 1 ∨ j = 2 by have := HJ.out; omega) with rfl | rfl | rfl
  · have HC5 := HC0
    have HSO : Hid (SecOk (sec2 all 0)) := Lib.hid (HSK.out 0 (by omega))
    have HSL : Hid ((u8s (sec2 all 0)).length = 64) := Lib.hid (by rw [u8s_len, HSO.out.1])
    have HAD : Hid (slotA n 0 = (m2 : Int)) := Lib.hid (by unfold slotA; have := HM.out; have := HM2.out; have := HM3.out; omega)
    have HGO := Lib.hid (writeQ_go HE.out)
    obtain ⟨q, hq⟩ : ∃ q, q = (writeQ p n all 0).1 := ⟨_, rfl⟩
    rw [← hq, HAD.out] at HGO
    rw [← hq] at HD
    obtain ⟨sc, hsc⟩ : ∃ sc, sc = sec2 all 0 := ⟨_, rfl⟩
    rw [← hsc] at HGO
    have HSCE := Lib.hid hsc
    obtain ⟨q2, hq2⟩ : ∃ q2, q2 = q.doWrite (m2 : Int) sc := ⟨_, rfl⟩
    obtain ⟨c, hc⟩ : ∃ c, c = q.wcode (m2 : Int) := ⟨_, rfl⟩
    rw [← hq2, ← hc] at HGO
    have HQ2 := Lib.hid hq2
    have HC := Lib.hid hc
    clear hq hsc hq2 hc
    go_upto_region 4 with fail
    refine wp_region_list ?_
    iterate 6 (refine wpList_step fun K hK => ?_; go_simp; refine hK _ _ ?_; clear hK K)
    refine wpList_arr_l27 rfl _ rfl rfl Tryz.underlying154 (Nat.le_refl _) ?_
    refine wpList_load_range rfl _ rfl rfl (sec2_range (i := 0) HB5.out) Tryz.underlying154 rfl (by rw [HSL.out]; rfl) ?_
    refine wpList_newvar (s := sec2 all 0) rfl rfl rfl _ _ rfl secInfo rfl rfl rfl HSO.out.1 ?_
    obtain ⟨w3, hw3⟩ : ∃ w3 : World, w3 = wr.alloc (.cells (secA (sec2 all 0)) 154) := ⟨_, rfl⟩
    obtain ⟨b8, hb8⟩ : ∃ b8, b8 = wr.heap.size := ⟨_, rfl⟩
    have HN3 : Hid (New wr w3) := Lib.hid (by rw [hw3]; exact New.al (New.refl _) _)
    have HB8 : Hid (Blk w3 b8 154 (secA (sec2 all 0))) := Lib.hid (by rw [hw3, hb8]; exact Blk.new _ _ _)
    have HB53 : Hid (Blk w3 b5 220 (secA all)) := Lib.hid (HN3.out.blk HB5.out)
    have HD3 : Hid (DkTo w base gd bs bf v q w3 v') := Lib.hid (HD.out.new HN3.out)
    have HC3 : Hid (w3.cell? ⟨gk, 0, none⟩ = some (.pointer (some ⟨gd, 0, none⟩))) := Lib.hid (HN3.out.cell_ HC0.out)
    have HL8 : Hid (gd < b8 ∧ b5 < b8) := Lib.hid (by have h1 := HB5.out.lt; have h2 := HD.out.dk.blk.lt; omega)
    simp only [Act.put, List.setIfInBounds_toArray, List.set_cons_zero, List.set_cons_succ]
    rw [← hw3, ← hb8]
    clear hw3 hb8 HB5 HD HC0 HC5
    go_upto_region 5 with fail
    refine wp_region_mixH (RdAt gk gd b8 (sec2 all 0)) [(true, 0), (true, 1), (true, 2), (true, 3), (true, 4), (true, 5), (true, 6), (true, 7), (true, 8), (true, 9), (true, 10), (false, 11), (true, 12)] (by kernel_rfl) (by kernel_rfl) ⟨(New.dr (New.refl w3)).cell_ HC3.out, (New.dr (New.refl w3)).blk HB8.out⟩ (fun hne => ?_)
    have q0 : ∀ p : HW (RdAt gk gd b8 (sec2 all 0)), p.w.cell? ⟨gk, 0, none⟩ = some (.pointer (some ⟨gd, 0, none⟩)) := fun p => p.h.1
    iterate 10 (refine mix_take (o := ⟨_, _, _, _, _, _⟩) rfl (fun K hK => ?_); go_simp; refine hK _ ?_; clear hK K)
    refine mix_take_row (o := ⟨_, _, _, _, _, _⟩) (cs := u8s (sec2 all 0)) rfl rfl _ rfl rfl (fun w' h => by have h2 := Blk.rangeOf h.2; rw [secA_list] at h2; exact h2) Tryz.underlying154 rfl (by rw [HSL.out]; rfl) ?_
    clear q0
    refine mix_act (o := ⟨_, _, _, _, _, _⟩) rfl (fun K hK => ?_) (.inl rfl)
    go_simp
    refine (write_all (HD3.out.dk.new (New.dr (New.refl w3))) (m2 : Int) HSO.out).mono ?_
    rintro e w4 ⟨rfl, v4, hD4, hF4, hO4⟩
    rw [← HSCE.out, ← HQ2.out] at hD4
    rw [← HC.out]
    have hT : DkTo w3 base gd bs bf v' q2 w4 v4 := ⟨hD4, Fr.ofDrew hF4, hO4⟩
    have HD4 : Hid (DkTo w base gd bs bf v q2 w4 v4) := Lib.hid (HD3.out.tr hT)
    have HC4 : Hid (w4.cell? ⟨gk, 0, none⟩ = some (.pointer (some ⟨gd, 0, none⟩))) := Lib.hid (HD4.out.fr.cell_some HKP.out.c0 HAP.out)
    have HB84 : Hid (Blk w4 b8 154 (secA (sec2 all 0))) := Lib.hid (HB8.out.fr hT.fr (dk_notBlk HD3.out.dk HB8.out (by have := HL8.out; omega) (by decide)))
    have HB54 : Hid (Blk w4 b5 220 (secA all)) := Lib.hid (HB53.out.fr hT.fr (dk_notBlk HD3.out.dk HB53.out (by have := HZ.out; omega) (by decide)))
    clear hD4 hF4 hO4 hT
    go_simp
    refine hK.out _ _ (fun _ => ⟨HC4.out, HB84.out⟩) ?_
    clear hK K
    iterate 1 (refine mix_take (o := ⟨_, _, _, _, _, _⟩) rfl (fun K hK => ?_); go_simp; refine hK _ ?_; clear hK K)
    refine mix_done ?_
    by_cases hc0 : c = 0
    · have HWE : Hid (errD c = .nilIface) := Lib.hid (by rw [hc0]; rfl)
      have HG1 : Hid (writeQ p n all (0 + 1) = (q2, 0)) := Lib.hid (by rw [HGO.out, hc0])
      rw [HWE.out]
      clear hc0
      go_wp2_with fail
      go_roundw
      case rel => exact ⟨0 + 1, v4, Lib.hid (by omega), by go_num, Lib.hid (by rw [HG1.out]), Lib.hid (by rw [HG1.out]; exact HD4.out), HB54⟩
      case measure => simp [intOf]
    · have HWE : Hid (errD c = .iface 55 (.int .i64 c)) := Lib.hid (errD_n hc0)
      have HG1 : Hid (writeQ p n all (0 + 1) = (q2, c)) := Lib.hid HGO.out
      have HC0 := Lib.hid hc0
      rw [HWE.out]
      clear hc0
      have HW : Hid (WP = (q2, c)) := Lib.hid (by
       have h2 : writeQ p n all 2 = (q2, c) := (writeQ_bad (by rw [HG1.out]; exact HC0.out)).trans HG1.out
       rw [HWP.out, h2]
       simp only [ne_eq, HC0.out, not_false_eq_true, if_true])
      go_wp2_with fail
      go_ret
      refine ⟨?_, v4, ?_⟩
      · rw [HW.out]; exact (congrArg Ending.returned HWE.out).symm
      · rw [HW.out]; exact HD4.out
  · have HC5 := HC0
    have HSO : Hid (SecOk (sec2 all 1)) := Lib.hid (HSK.out 1 (by omega))
    have HSL : Hid ((u8s (sec2 all 1)).length = 64) := Lib.hid (by rw [u8s_len, HSO.out.1])
    have HAD : Hid (slotA n 1 = (m3 : Int)) := Lib.hid (by unfold slotA; have := HM.out; have := HM2.out; have := HM3.out; omega)
    have HGO := Lib.hid (writeQ_go HE.out)
    obtain ⟨q, hq⟩ : ∃ q, q = (writeQ p n all 1).1 := ⟨_, rfl⟩
    rw [← hq, HAD.out] at HGO
    rw [← hq] at HD
    obtain ⟨sc, hsc⟩ : ∃ sc, sc = sec2 all 1 := ⟨_, rfl⟩
    rw [← hsc] at HGO
    have HSCE := Lib.hid hsc
    obtain ⟨q2, hq2⟩ : ∃ q2, q2 = q.doWrite (m3 : Int) sc := ⟨_, rfl⟩
    obtain ⟨c, hc⟩ : ∃ c, c = q.wcode (m3 : Int) := ⟨_, rfl⟩
    rw [← hq2, ← hc] at HGO
    have HQ2 := Lib.hid hq2
    have HC := Lib.hid hc
    clear hq hsc hq2 hc
    go_upto_region 4 with fail
    refine wp_region_list ?_
    iterate 6 (refine wpList_step fun K hK => ?_; go_simp; refine hK _ _ ?_; clear hK K)
    refine wpList_arr_l27 rfl _ rfl rfl Tryz.underlying154 (Nat.le_refl _) ?_
    refine wpList_load_range rfl _ rfl rfl (sec2_range (i := 1) HB5.out) Tryz.underlying154 rfl (by rw [HSL.out]; rfl) ?_
    refine wpList_newvar (s := sec2 all 1) rfl rfl rfl _ _ rfl secInfo rfl rfl rfl HSO.out.1 ?_
    obtain ⟨w3, hw3⟩ : ∃ w3 : World, w3 = wr.alloc (.cells (secA (sec2 all 1)) 154) := ⟨_, rfl⟩
    obtain ⟨b8, hb8⟩ : ∃ b8, b8 = wr.heap.size := ⟨_, rfl⟩
    have HN3 : Hid (New wr w3) := Lib.hid (by rw [hw3]; exact New.al (New.refl _) _)
    have HB8 : Hid (Blk w3 b8 154 (secA (sec2 all 1))) := Lib.hid (by rw [hw3, hb8]; exact Blk.new _ _ _)
    have HB53 : Hid (Blk w3 b5 220 (secA all)) := Lib.hid (HN3.out.blk HB5.out)
    have HD3 : Hid (DkTo w base gd bs bf v q w3 v') := Lib.hid (HD.out.new HN3.out)
    have HC3 : Hid (w3.cell? ⟨gk, 0, none⟩ = some (.pointer (some ⟨gd, 0, none⟩))) := Lib.hid (HN3.out.cell_ HC0.out)
    have HL8 : Hid (gd < b8 ∧ b5 < b8) := Lib.hid (by have h1 := HB5.out.lt; have h2 := HD.out.dk.blk.lt; omega)
    simp only [Act.put, List.setIfInBounds_toArray, List.set_cons_zero, List.set_cons_succ]
    rw [← hw3, ← hb8]
    clear hw3 hb8 HB5 HD HC0 HC5
    go_upto_region 5 with fail
    refine wp_region_mixH (RdAt gk gd b8 (sec2 all 1)) [(true, 0), (true, 1), (true, 2), (true, 3), (true, 4), (true, 5), (true, 6), (true, 7), (true, 8), (true, 9), (true, 10), (false, 11), (true, 12)] (by kernel_rfl) (by kernel_rfl) ⟨(New.dr (New.refl w3)).cell_ HC3.out, (New.dr (New.refl w3)).blk HB8.out⟩ (fun hne => ?_)
    have q0 : ∀ p : HW (RdAt gk gd b8 (sec2 all 1)), p.w.cell? ⟨gk, 0, none⟩ = some (.pointer (some ⟨gd, 0, none⟩)) := fun p => p.h.1
    iterate 10 (refine mix_take (o := ⟨_, _, _, _, _, _⟩) rfl (fun K hK => ?_); go_simp; refine hK _ ?_; clear hK K)
    refine mix_take_row (o := ⟨_, _, _, _, _, _⟩) (cs := u8s (sec2 all 1)) rfl rfl _ rfl rfl (fun w' h => by have h2 := Blk.rangeOf h.2; rw [secA_list] at h2; exact h2) Tryz.underlying154 rfl (by rw [HSL.out]; rfl) ?_
    clear q0
    refine mix_act (o := ⟨_, _, _, _, _, _⟩) rfl (fun K hK => ?_) (.inl rfl)
    go_simp
    refine (write_all (HD3.out.dk.new (New.dr (New.refl w3))) (m3 : Int) HSO.out).mono ?_
    rintro e w4 ⟨rfl, v4, hD4, hF4, hO4⟩
    rw [← HSCE.out, ← HQ2.out] at hD4
    rw [← HC.out]
    have hT : DkTo w3 base gd bs bf v' q2 w4 v4 := ⟨hD4, Fr.ofDrew hF4, hO4⟩
    have HD4 : Hid (DkTo w base gd bs bf v q2 w4 v4) := Lib.hid (HD3.out.tr hT)
    have HC4 : Hid (w4.cell? ⟨gk, 0, none⟩ = some (.pointer (some ⟨gd, 0, none⟩))) := Lib.hid (HD4.out.fr.cell_some HKP.out.c0 HAP.out)
    have HB84 : Hid (Blk w4 b8 154 (secA (sec2 all 1))) := Lib.hid (HB8.out.fr hT.fr (dk_notBlk HD3.out.dk HB8.out (by have := HL8.out; omega) (by decide)))
    have HB54 : Hid (Blk w4 b5 220 (secA all)) := Lib.hid (HB53.out.fr hT.fr (dk_notBlk HD3.out.dk HB53.out (by have := HZ.out; omega) (by decide)))
    clear hD4 hF4 hO4 hT
    go_simp
    refine hK.out _ _ (fun _ => ⟨HC4.out, HB84.out⟩) ?_
    clear hK K
    iterate 1 (refine mix_take (o := ⟨_, _, _, _, _, _⟩) rfl (fun K hK => ?_); go_simp; refine hK _ ?_; clear hK K)
    refine mix_done ?_
    by_cases hc0 : c = 0
    · have HWE : Hid (errD c = .nilIface) := Lib.hid (by rw [hc0]; rfl)
      have HG1 : Hid (writeQ p n all (1 + 1) = (q2, 0)) := Lib.hid (by rw [HGO.out, hc0])
      rw [HWE.out]
      clear hc0
      go_wp2_with fail
      go_roundw
      case rel => exact ⟨1 + 1, v4, Lib.hid (by omega), by go_num, Lib.hid (by rw [HG1.out]), Lib.hid (by rw [HG1.out]; exact HD4.out), HB54⟩
      case measure => simp [intOf]
    · have HWE : Hid (errD c = .iface 55 (.int .i64 c)) := Lib.hid (errD_n hc0)
      have HG1 : Hid (writeQ p n all (1 + 1) = (q2, c)) := Lib.hid HGO.out
      have HC0 := Lib.hid hc0
      rw [HWE.out]
      clear hc0
      have HW : Hid (WP = (q2, c)) := Lib.hid (by
       have h2 : writeQ p n all 2 = (q2, c) := HG1.out
       rw [HWP.out, h2]
       simp only [ne_eq, HC0.out, not_false_eq_true, if_true])
      go_wp2_with fail
      go_ret
      refine ⟨?_, v4, ?_⟩
      · rw [HW.out]; exact (congrArg Ending.returned HWE.out).symm
      · rw [HW.out]; exact HD4.out
  · have cc := HC0.out
    obtain ⟨q, hq⟩ : ∃ q, q = (writeQ p n all 2).1 := ⟨_, rfl⟩
    rw [← hq] at HD
    have HW : Hid (WP = (q.doSync, q.scode)) := Lib.hid (by
     rw [HWP.out, HE.out, ← hq]
     simp)
    clear hq
    go_wp2_with fail
    clear cc
    refine (sync_all HD.out.dk).mono ?_
    rintro e w4 ⟨rfl, v4, hD4, hF4, hO4⟩
    have HD4 : Hid (DkTo w base gd bs bf v q.doSync w4 v4) := Lib.hid (HD.out.tr ⟨hD4, hF4, hO4⟩)
    clear hD4 hF4 hO4
    go_wp2_with fail
    go_ret
    refine ⟨?_, v4, ?_⟩
    · rw [HW.out]; rfl
    · rw [HW.out]; exact HD4.out
end Go.Proofs.YtmibndkofoldkaaGreatDoor
namespace Go.Proofs.YtmibndkofoldkaaGreatDoor
set_option linter.unusedVariables false
set_option linter.unusedSimpArgs false
set_option linter.constructorNameAsVariable false
open Go.RowKit Go.Sort
theorem pairInfo : (Tryz.prog.info? 220).map (fun i => (i.zero, i.size)) = some (some (.agg (secA (List.replicate 128 0))), 128) := by kernel_rfl
structure SvTo (w : World) (base gk gd bs bf : Nat) (v : Value) (p : DP) (k : KR) (w' : World) (v' : Value) : Prop where
 dk : Dk w' base gd bs bf v' p
 kp : Kp w' gk gd k
 fr : Fr (fun b => b = gk ∨ DkOurs gd bs bf v b) w w'
 own : ∀ b, v'.ownBlock = some b → base ≤ b ∧ (v.ownBlock = some b ∨ w.heap.size ≤ b)
def SvSays (w : World) (base gk gd bs bf : Nat) (v : Value) (r : DP × KR × Int) (e : Ending) (w' : World) : Prop := e = .returned (errD r.2.2) ∧ ∃ v', SvTo w base gk gd bs bf v r.1 r.2.1 w' v'
theorem SvTo.same {w w' : World} {base gk gd bs bf : Nat} {v : Value} {p : DP} {k : KR} (hD : Dk w base gd bs bf v p) (hK : Kp w gk gd k) (hN : New w w') : SvTo w base gk gd bs bf v p k w' v :=
 ⟨hD.new hN, hK.new hN, hN.toFr _, fun b hb => ⟨(hD.ours b (.inr (.inr (.inr hb)))).1, .inl hb⟩⟩
set_option maxHeartbeats 1000000
set_option maxRecDepth 100000
def SvAt (gk b5 nm : Nat) (AL : List Int) (w : World) : Prop := w.cell? ⟨gk, 1, none⟩ = some (.int .u64 nm) ∧ Blk w b5 220 (secA AL)
set_option maxHeartbeats 4000000 in
theorem ksave_kp {w : World} {gk gd base bs bf : Nat} {v : Value} {p : DP} {k : KR} (h : Kp w gk gd k) (hD : Dk w base gd bs bf v p) (hL : ShaIn 3 1 w) (r : Rc) (hr : r.Ok) :
    Calls Tryz.prog 58 #[.pointer (some ⟨gk, 0, none⟩), .agg r.cells] w (SvSays w base gk gd bs bf v (saveP p k r)) := by
 have HK := Lib.hid h
 have HD := Lib.hid hD
 have HL := Lib.hid hL
 have HR := Lib.hid hr
 have HAP : Hid (¬ DkOurs gd bs bf v gk) := Lib.hid (kp_apart hD h)
 have HSZ : Hid (r.cells.size = 37) := Lib.hid (Rc.size hr.len)
 obtain ⟨SP, hSP⟩ : ∃ SP, SP = saveP p k r := ⟨_, rfl⟩
 rw [← hSP]
 have HSP := Lib.hid hSP
 obtain ⟨RC, hRC⟩ : ∃ RC, RC = r.cells := ⟨_, rfl⟩
 have HRC := Lib.hid hRC
 rw [← hRC]
 have c1 := h.c1
 have c3 := h.c3
 obtain ⟨nm, hnm⟩ : ∃ nm, nm = k.number := ⟨_, rfl⟩
 have HNM := Lib.hid hnm
 rw [← hnm] at c1
 obtain ⟨br, hbr⟩ : ∃ br, br = k.broken := ⟨_, rfl⟩
 have HBR := Lib.hid hbr
 rw [← hbr] at c3
 clear h hD hL hr hSP hRC hnm hbr
 go_enter Tryz.func58, Tryz.ntmps58
 go_upto_region 1 with fail
 obtain ⟨w1, hw1⟩ : ∃ w1 : World, w1 = w.alloc (.cells RC 63) := ⟨_, rfl⟩
 obtain ⟨b3, hb3⟩ : ∃ b3, b3 = w.heap.size := ⟨_, rfl⟩
 have HN1 : Hid (New w w1) := Lib.hid (by rw [hw1]; exact New.al (New.refl _) _)
 have HB3 : Hid (Blk w1 b3 63 r.cells) := Lib.hid (by rw [hw1, hb3, HRC.out]; exact Blk.new _ _ _)
 have HZ : Hid (b3 = w.heap.size) := Lib.hid hb3
 rw [← hw1, ← hb3]
 clear hw1 hb3
 go_wp2_with ((with_reducible refine atOp ⟨some 13, .load _ _, _, _, _, _⟩ ?_); refine wpList_load_any rfl _ rfl Tryz.underlying63 rfl (by rw [HSZ.out]; rfl) rfl HB3.out ?_)
 refine (right_any_l27 r w1 HR.out).mono ?_
 rintro e wm ⟨rfl, hN2⟩
 have HNw : Hid (New w wm) := Lib.hid (HN1.out.tr hN2)
 have HB32 : Hid (Blk wm b3 63 r.cells) := Lib.hid (hN2.blk HB3.out)
 clear hN2
 by_cases hR : r.Right
 · rw [decide_eq_true hR]
   have HRT := Lib.hid hR
   clear hR
   have c32 : wm.cell? ⟨gk, 39, none⟩ = some (.bool br) := HNw.out.cell_ c3
   have c12 : wm.cell? ⟨gk, 1, none⟩ = some (.int .u64 nm) := HNw.out.cell_ c1
   clear c1 c3
   rcases br with _ | _
   · by_cases hmx : nm = 18446744073709551615
     · have hq : ((nm : Int) == 18446744073709551615) = true := by rw [hmx]; rfl
       have HW : Hid (SP = (p, k, 9)) := Lib.hid (by rw [HSP.out]; unfold saveP; rw [if_neg (fun h => h HRT.out), ← HBR.out, if_neg (by decide), ← HNM.out, if_pos hmx])
       clear hmx
       go_wp2_with fail
       go_ret
       refine ⟨?_, v, ?_⟩
       · rw [HW.out]; rfl
       · rw [HW.out]; exact SvTo.same HD.out HK.out HNw.out
     · have hq : ((nm : Int) == 18446744073709551615) = false := by rw [beq_eq_false_iff_ne]; omega
       obtain ⟨n1, hn1⟩ : ∃ n1, n1 = nm + 1 := ⟨_, rfl⟩
       have HN1' : Hid (n1 = nm + 1) := Lib.hid hn1
       have HLT : Hid (n1 < 18446744073709551616) := Lib.hid (by have := HK.out.ok.num; have := HNM.out; omega)
       have e1 : (nm : Int) + 1 = (n1 : Int) := by omega
       have e2 : IntKind.u64.wrap (n1 : Int) = (n1 : Int) := by rw [IntKind.wrap_u64]; have := HLT.out; omega
       obtain ⟨AL, hAL⟩ : ∃ AL, AL = putL n1 r := ⟨_, rfl⟩
       have HALB : Hid (AL.length = 128 ∧ Byt AL) := Lib.hid (by rw [hAL]; exact ⟨putL_len HR.out.len, putL_byt HR.out.byt⟩)
       have HAL := Lib.hid hAL
       have HASZ : Hid ((secA AL).size = 128) := Lib.hid (by rw [secA_size, HALB.out.1])
       have HW0 : Hid (SP = (if (writeP p n1 AL).2 ≠ 0 then ((writeP p n1 AL).1, { k with broken := true }, (writeP p n1 AL).2) else ((writeP p n1 AL).1, ⟨n1, r, false⟩, 0))) := Lib.hid (by rw [HSP.out]; unfold saveP; rw [if_neg (fun h => h HRT.out), ← HBR.out, if_neg (by decide), ← HNM.out, if_neg hmx, hAL, hn1])
       clear hmx hn1 hAL
       go_wp2_with fail
       have q1 : ∀ p : HW (New wm), p.w.cell? ⟨gk, 1, none⟩ = some (.int .u64 nm) := fun p => p.h.cell_ c12
       apply wp_join (α := Nat) (fun b w3 => New wm w3 ∧ Blk w3 b 220 (secA AL))
       case h1 =>
        intro K' hK'
        refine wp_region_tree (New wm) (.take 0 (.take 1 (.take 2 (.take 3 (.take 4 (.take 5 (.two 6 (.take 7 (.take 8 (.take 9 (.act 10 (.act 11 (.take 12 .done)))))) 10 (.act 6 (.take 7 (.take 8 (.take 9 (.act 11 (.take 12 .done))))))))))))) (by kernel_rfl) (by kernel_rfl) (New.dr (New.refl wm)) (fun hne => ?_)
        iterate 5 (refine tree_take (o := ⟨_, _, _, _, _, _⟩) rfl (fun K hK => ?_); go_simp; refine hK _ ?_; clear hK K)
        refine tree_take_row (o := ⟨_, _, _, _, _, _⟩) (cs := r.cells.toList) rfl rfl _ rfl rfl (fun w' h => (h.blk HB32.out).rangeOf) Tryz.underlying63 rfl (by rw [Array.length_toList, HSZ.out]; rfl) ?_
        simp only [Act.put, List.setIfInBounds_toArray, List.set_cons_zero, List.set_cons_succ]
        refine ⟨?_, ?_⟩
        · refine act_ok (o := ⟨_, _, _, _, _, _⟩) rfl (fun K hK => ?_) (.inl rfl)
          go_simp
          refine (put_any_l27 n1 r wm.drew ((HL.out.new HNw.out).new (New.dr (New.refl wm))) HR.out HLT.out).mono ?_
          rintro e w1 ⟨rfl, hN1⟩
          rw [← HAL.out]
          have HN1 : Hid (New wm w1) := Lib.hid (New.tr (New.dr (New.refl wm)) hN1)
          clear hN1
          go_simp
          refine hK.out _ _ HN1.out ?_
          clear hK K
          iterate 3 (refine tree_take (o := ⟨_, _, _, _, _, _⟩) rfl (fun K hK => ?_); go_simp; refine hK _ ?_; clear hK K)
          refine tree_act_alloc (o := ⟨_, _, _, _, _, _⟩) rfl rfl rfl pairInfo ?_
          intro b8 w2 hb8 hB2 hN2
          have HL2 : Hid (wm.heap.size ≤ b8) := Lib.hid (by have := HN1.out.size; omega)
          refine ⟨HN1.out.tr hN2, ?_⟩
          clear hb8
          simp only [Act.put, List.setIfInBounds_toArray, List.set_cons_zero, List.set_cons_succ]
          refine act_store (o := ⟨_, _, _, _, _, _⟩) (cs := secA AL) rfl rfl (.tmp 5) (.tmp 38) rfl (by rw [HASZ.out]; rfl) rfl rfl hB2 (by rw [HASZ.out]; rfl) (secA_one _) ?_
          intro w3 hB3 hF3
          have hN3 : New wm w3 := (HN1.out.tr hN2).fr hF3 (fun k hk => by have := HL2.out; omega)
          refine ⟨hN3, ?_⟩
          simp only [Act.put, List.setIfInBounds_toArray, List.set_cons_zero, List.set_cons_succ]
          iterate 1 (refine tree_take (o := ⟨_, _, _, _, _, _⟩) rfl (fun K hK => ?_); go_simp; refine hK _ ?_; clear hK K)
          refine tree_done ?_
          exact hK'.out b8 w3 ⟨hN3, hB3⟩
        · refine act_alloc (o := ⟨_, _, _, _, _, _⟩) rfl rfl rfl pairInfo ?_
          intro b8 w2 hb8 hB2 hN2
          have HN2 : Hid (New wm w2) := Lib.hid ((New.dr (New.refl wm)).tr hN2)
          have HB2 := Lib.hid hB2
          have HL2 : Hid (wm.heap.size ≤ b8) := Lib.hid (by rw [hb8]; exact Nat.le_refl _)
          refine ⟨HN2.out, ?_⟩
          clear hb8 hB2 hN2
          simp only [Act.put, List.setIfInBounds_toArray, List.set_cons_zero, List.set_cons_succ]
          refine tree_act (o := ⟨_, _, _, _, _, _⟩) rfl (fun K hK => ?_) (.inl rfl)
          go_simp
          refine (put_any_l27 n1 r w2 ((HL.out.new HNw.out).new HN2.out) HR.out HLT.out).mono ?_
          rintro e w1 ⟨rfl, hN1⟩
          rw [← HAL.out]
          have HB1 := Lib.hid (hN1.blk HB2.out)
          have HN1 : Hid (New wm w1) := Lib.hid (HN2.out.tr hN1)
          clear hN1
          go_simp
          refine hK.out _ _ HN1.out ?_
          clear hK K
          iterate 3 (refine tree_take (o := ⟨_, _, _, _, _, _⟩) rfl (fun K hK => ?_); go_simp; refine hK _ ?_; clear hK K)
          refine act_store (o := ⟨_, _, _, _, _, _⟩) (cs := secA AL) rfl rfl (.tmp 5) (.tmp 38) rfl (by rw [HASZ.out]; rfl) rfl rfl HB1.out (by rw [HASZ.out]; rfl) (secA_one _) ?_
          intro w3 hB3 hF3
          have hN3 : New wm w3 := HN1.out.fr hF3 (fun k hk => by have := HL2.out; omega)
          refine ⟨hN3, ?_⟩
          simp only [Act.put, List.setIfInBounds_toArray, List.set_cons_zero, List.set_cons_succ]
          iterate 1 (refine tree_take (o := ⟨_, _, _, _, _, _⟩) rfl (fun K hK => ?_); go_simp; refine hK _ ?_; clear hK K)
          refine tree_done ?_
          exact hK'.out b8 w3 ⟨hN3, hB3⟩
       case h2 =>
        rintro b5 w3 ⟨hN3, hB5⟩
        clear q1
        have HN3 : Hid (New w w3) := Lib.hid (HNw.out.tr hN3)
        have HB5 := Lib.hid hB5
        have HB33 : Hid (Blk w3 b3 63 r.cells) := Lib.hid (hN3.blk HB32.out)
        have c13 : w3.cell? ⟨gk, 1, none⟩ = some (.int .u64 nm) := hN3.cell_ c12
        have HD3 : Hid (Dk w3 base gd bs bf v p) := Lib.hid (HD.out.new HN3.out)
        have HK3 : Hid (Kp w3 gk gd k) := Lib.hid (HK.out.new HN3.out)
        clear hN3 hB5 c32 c12
        go_wp2_with fail
        clear c13
        refine wp_region_mixH (SvAt gk b5 nm AL) [(true, 0), (true, 1), (true, 2), (true, 3), (true, 4), (true, 5), (true, 6), (false, 7), (true, 8)] (by kernel_rfl) (by kernel_rfl) ⟨(New.dr (New.refl w3)).cell_ (by rw [HNM.out]; exact HK3.out.c1), (New.dr (New.refl w3)).blk HB5.out⟩ (fun hne => ?_)
        have q0 : ∀ p : HW (SvAt gk b5 nm AL), p.w.cell? ⟨gk, 1, none⟩ = some (.int .u64 nm) := fun p => p.h.1
        iterate 6 (refine mix_take (o := ⟨_, _, _, _, _, _⟩) rfl (fun K hK => ?_); go_simp; refine hK _ ?_; clear hK K)
        refine mix_take_row (o := ⟨_, _, _, _, _, _⟩) (cs := u8s AL) rfl rfl _ rfl rfl (fun w' h => by have h2 := Blk.rangeOf h.2; rw [secA_list] at h2; exact h2) Tryz.underlying220 rfl (by rw [u8s_len, HALB.out.1]; rfl) ?_
        clear q0
        refine mix_act (o := ⟨_, _, _, _, _, _⟩) rfl (fun K hK => ?_) (.inl rfl)
        go_simp
        refine (kwrite_any (HK3.out.new (New.dr (New.refl w3))) (HD3.out.new (New.dr (New.refl w3))) n1 HLT.out AL HALB.out.1 HALB.out.2).mono ?_
        rintro e w4 ⟨rfl, v4, hT⟩
        obtain ⟨q2, hq2⟩ : ∃ q2, q2 = (writeP p n1 AL).1 := ⟨_, rfl⟩
        obtain ⟨c, hc⟩ : ∃ c, c = (writeP p n1 AL).2 := ⟨_, rfl⟩
        rw [← hq2] at hT HW0
        rw [← hc] at HW0 ⊢
        have hB5d : Blk w3.drew b5 220 (secA AL) := (New.dr (New.refl w3)).blk HB5.out
        have hgd5 : b5 ≠ gd := fun e => Blk.ne_ (g := b5) (g' := gd) HB5.out HD3.out.blk (by decide) e
        have HB54 : Hid (Blk w4 b5 220 (secA AL)) := Lib.hid (hB5d.fr hT.fr (dk_notBlk (HD3.out.new (New.dr (New.refl w3))) hB5d hgd5 (by decide)))
        have HK4 : Hid (Kp w4 gk gd k) := Lib.hid ((HK3.out.new (New.dr (New.refl w3))).fr hT.fr HAP.out)
        have HB34 : Hid (Blk w4 b3 63 r.cells) := Lib.hid ((New.dr (New.refl w3)).blk HB33.out |>.fr hT.fr (dk_notBlk (HD3.out.new (New.dr (New.refl w3))) ((New.dr (New.refl w3)).blk HB33.out) (fun e => Blk.ne_ (g := b3) (g' := gd) HB33.out HD3.out.blk (by decide) e) (by decide)))
        have HT : Hid (Dk w4 base gd bs bf v4 q2 ∧ Fr (DkOurs gd bs bf v) w w4 ∧ ∀ b, v4.ownBlock = some b → base ≤ b ∧ (v.ownBlock = some b ∨ w.heap.size ≤ b)) := Lib.hid ⟨hT.dk, (HN3.out.toFr _).trans (Fr.ofDrew hT.fr), fun b hb => ⟨(hT.own b hb).1, (hT.own b hb).2.imp id (fun h => by have h1 : w3.drew.heap.size = w3.heap.size := rfl; have := HN3.out.size; omega)⟩⟩
        have HAP4 : Hid (¬ DkOurs gd bs bf v4 gk) := Lib.hid (kp_apart HT.out.1 HK4.out)
        clear hT hq2 hc hB5d hgd5
        go_simp
        refine hK.out _ _ (fun _ => ⟨by rw [HNM.out]; exact HK4.out.c1, HB54.out⟩) ?_
        clear hK K
        iterate 1 (refine mix_take (o := ⟨_, _, _, _, _, _⟩) rfl (fun K hK => ?_); go_simp; refine hK _ ?_; clear hK K)
        refine mix_done ?_
        by_cases hc0 : c = 0
        · rw [hc0, errD_0]
          have HW : Hid (SP = (q2, ⟨n1, r, false⟩, 0)) := Lib.hid (by rw [HW0.out, if_neg (by rw [hc0]; simp)])
          clear hc0
          have cc : w4.cell? ⟨gk, 1, none⟩ = some (.int .u64 nm) := by rw [HNM.out]; exact HK4.out.c1
          have ff := HK4.out.blk.frozen 1
          go_upto_region 17 with fail
          clear cc ff
          obtain ⟨w5, hw5⟩ : ∃ w5 : World, w5 = w4.setCell ⟨gk, 1, none⟩ (.int .u64 (n1 : Int)) := ⟨_, rfl⟩
          have hF5 : Fr (fun b => b = gk) w4 w5 := by rw [hw5]; exact (Fr.refl (fun b => b = gk) w4).setCell (p := ⟨gk, 1, none⟩) (fun _ => rfl) _
          have HF5 := Lib.hid hF5
          have HK5 : Hid (Kp w5 gk gd { k with number := n1 }) := Lib.hid (by rw [hw5]; exact HK4.out.setNum n1 HLT.out)
          have HB35 : Hid (Blk w5 b3 63 r.cells) := Lib.hid (HB34.out.fr hF5 (by have := HZ.out; have := HK.out.blk.lt; omega))
          rw [← hw5]
          clear hw5 hF5
          go_wp2_with (first
           | ((with_reducible refine atOp ⟨some 65, .load _ _, _, _, _, _⟩ ?_); refine wpList_load_any rfl _ rfl Tryz.underlying63 rfl (by rw [HSZ.out]; rfl) rfl HB35.out ?_)
           | ((with_reducible refine atOp ⟨none, .store 63 (.tmp 67) _, _, _, _, _⟩ ?_); refine wpList_store_part (cells := r.cells.toList) (off := 2) rfl (.tmp 67) (.tmp 65) rfl rfl rfl HK5.out.blk (by rw [Rc.cells_len HR.out.len, kpA_len HK5.out.ok.now.len]; omega) (by rw [Rc.cells_len HR.out.len]; rfl) (fun v hv => by have := Array.all_eq_true'.1 (Rc.one r) v (by simpa using hv); exact this) ?_; intro w6 hb6 hf6; have HB6 := Lib.hid hb6; have HF6 := Lib.hid hf6; clear hb6 hf6))
          have HK6 : Hid (Kp w6 gk gd ⟨n1, r, k.broken⟩) := Lib.hid ⟨by have h := HB6.out; rw [kpA_now HK5.out.ok.now.len gd r HR.out.len] at h; exact h, ⟨HR.out, HLT.out⟩⟩
          go_ret
          refine ⟨?_, v4, ?_⟩
          · rw [HW.out]; rfl
          · rw [HW.out, HBR.out]
            exact ⟨(HT.out.1.fr HF5.out (fun b hb => hb ▸ HAP4.out)).fr HF6.out (fun b hb => hb ▸ HAP4.out), HK6.out, (HT.out.2.1.mono (fun b _ h => .inr h)).trans' ((HF5.out.trans HF6.out)) (fun b _ h => .inl h), HT.out.2.2⟩
        · have HW : Hid (SP = (q2, { k with broken := true }, c)) := Lib.hid (by rw [HW0.out, if_pos hc0])
          have HWE : Hid (errD c = .iface 55 (.int .i64 c)) := Lib.hid (errD_n hc0)
          rw [HWE.out]
          clear hc0
          have cc : w4.cell? ⟨gk, 39, none⟩ = some (.bool false) := by rw [HBR.out]; exact HK4.out.c3
          have ff := HK4.out.blk.frozen 39
          go_wp2_with fail
          clear cc ff
          have HK5 : Hid (Kp (w4.setCell ⟨gk, 39, none⟩ (.bool true)) gk gd { k with broken := true }) := Lib.hid (HK4.out.setBroken true)
          have HF5 : Hid (Fr (fun b => b = gk) w4 (w4.setCell ⟨gk, 39, none⟩ (.bool true))) := Lib.hid ((Fr.refl (fun b => b = gk) w4).setCell (p := ⟨gk, 39, none⟩) (fun _ => rfl) _)
          go_ret
          refine ⟨?_, v4, ?_⟩
          · rw [HW.out]; exact (congrArg Ending.returned HWE.out).symm
          · rw [HW.out]
            exact ⟨HT.out.1.fr HF5.out (fun b hb => hb ▸ HAP4.out), HK5.out, (HT.out.2.1.mono (fun b _ h => .inr h)).trans' HF5.out (fun b _ h => .inl h), HT.out.2.2⟩
   · have HW : Hid (SP = (p, k, 10)) := Lib.hid (by rw [HSP.out]; unfold saveP; rw [if_neg (fun h => h HRT.out), ← HBR.out, if_pos rfl])
     go_wp2_with fail
     go_ret
     refine ⟨?_, v, ?_⟩
     · rw [HW.out]; rfl
     · rw [HW.out]; exact SvTo.same HD.out HK.out HNw.out
 · rw [decide_eq_false hR]
   have HW : Hid (SP = (p, k, 2)) := Lib.hid (by rw [HSP.out]; unfold saveP; rw [if_pos hR])
   clear hR c1 c3
   go_wp2_with fail
   go_ret
   refine ⟨?_, v, ?_⟩
   · rw [HW.out]; rfl
   · rw [HW.out]; exact SvTo.same HD.out HK.out HNw.out
end Go.Proofs.YtmibndkofoldkaaGreatDoor
namespace Go.Proofs.YtmibndkofoldkaaGreatDoor
set_option linter.unusedVariables false
set_option linter.unusedSimpArgs false
set_option linter.constructorNameAsVariable false
open Go.RowKit Go.Sort
set_option maxRecDepth 100000 in
theorem built_rec' (x0 x1 x2 x3 x4 x5 x6 x7 x8 x9 x10 x11 x12 x13 x14 x15 x16 x17 x18 x19 x20 x21 x22 x23 x24 x25 x26 x27 x28 x29 x30 x31 : Int) (a b c : Nat) : Tryz.prog.built 63 [(0, .agg (secA [x0, x1, x2, x3, x4, x5, x6, x7, x8, x9, x10, x11, x12, x13, x14, x15, x16, x17, x18, x19, x20, x21, x22, x23, x24, x25, x26, x27, x28, x29, x30, x31])), (1, .int .u64 a), (2, .int .u64 b), (3, .int .u64 c)] = some (Rc.cells ⟨[x0, x1, x2, x3, x4, x5, x6, x7, x8, x9, x10, x11, x12, x13, x14, x15, x16, x17, x18, x19, x20, x21, x22, x23, x24, x25, x26, x27, x28, x29, x30, x31], a, b, c, 0, 0⟩) := by kernel_rfl
set_option maxRecDepth 100000 in
theorem built_rec (xs : List Int) (h : xs.length = 32) (a b c : Nat) : Tryz.prog.built 63 [(0, .agg (secA xs)), (1, .int .u64 a), (2, .int .u64 b), (3, .int .u64 c)] = some (Rc.cells ⟨xs, a, b, c, 0, 0⟩) := by
 obtain ⟨x0, xs, rfl⟩ := List.exists_cons_of_length_eq_add_one h
 replace h : xs.length = 31 := by simpa using h
 obtain ⟨x1, xs, rfl⟩ := List.exists_cons_of_length_eq_add_one h
 replace h : xs.length = 30 := by simpa using h
 obtain ⟨x2, xs, rfl⟩ := List.exists_cons_of_length_eq_add_one h
 replace h : xs.length = 29 := by simpa using h
 obtain ⟨x3, xs, rfl⟩ := List.exists_cons_of_length_eq_add_one h
 replace h : xs.length = 28 := by simpa using h
 obtain ⟨x4, xs, rfl⟩ := List.exists_cons_of_length_eq_add_one h
 replace h : xs.length = 27 := by simpa using h
 obtain ⟨x5, xs, rfl⟩ := List.exists_cons_of_length_eq_add_one h
 replace h : xs.length = 26 := by simpa using h
 obtain ⟨x6, xs, rfl⟩ := List.exists_cons_of_length_eq_add_one h
 replace h : xs.length = 25 := by simpa using h
 obtain ⟨x7, xs, rfl⟩ := List.exists_cons_of_length_eq_add_one h
 replace h : xs.length = 24 := by simpa using h
 obtain ⟨x8, xs, rfl⟩ := List.exists_cons_of_length_eq_add_one h
 replace h : xs.length = 23 := by simpa using h
 obtain ⟨x9, xs, rfl⟩ := List.exists_cons_of_length_eq_add_one h
 replace h : xs.length = 22 := by simpa using h
 obtain ⟨x10, xs, rfl⟩ := List.exists_cons_of_length_eq_add_one h
 replace h : xs.length = 21 := by simpa using h
 obtain ⟨x11, xs, rfl⟩ := List.exists_cons_of_length_eq_add_one h
 replace h : xs.length = 20 := by simpa using h
 obtain ⟨x12, xs, rfl⟩ := List.exists_cons_of_length_eq_add_one h
 replace h : xs.length = 19 := by simpa using h
 obtain ⟨x13, xs, rfl⟩ := List.exists_cons_of_length_eq_add_one h
 replace h : xs.length = 18 := by simpa using h
 obtain ⟨x14, xs, rfl⟩ := List.exists_cons_of_length_eq_add_one h
 replace h : xs.length = 17 := by simpa using h
 obtain ⟨x15, xs, rfl⟩ := List.exists_cons_of_length_eq_add_one h
 replace h : xs.length = 16 := by simpa using h
 obtain ⟨x16, xs, rfl⟩ := List.exists_cons_of_length_eq_add_one h
 replace h : xs.length = 15 := by simpa using h
 obtain ⟨x17, xs, rfl⟩ := List.exists_cons_of_length_eq_add_one h
 replace h : xs.length = 14 := by simpa using h
 obtain ⟨x18, xs, rfl⟩ := List.exists_cons_of_length_eq_add_one h
 replace h : xs.length = 13 := by simpa using h
 obtain ⟨x19, xs, rfl⟩ := List.exists_cons_of_length_eq_add_one h
 replace h : xs.length = 12 := by simpa using h
 obtain ⟨x20, xs, rfl⟩ := List.exists_cons_of_length_eq_add_one h
 replace h : xs.length = 11 := by simpa using h
 obtain ⟨x21, xs, rfl⟩ := List.exists_cons_of_length_eq_add_one h
 replace h : xs.length = 10 := by simpa using h
 obtain ⟨x22, xs, rfl⟩ := List.exists_cons_of_length_eq_add_one h
 replace h : xs.length = 9 := by simpa using h
 obtain ⟨x23, xs, rfl⟩ := List.exists_cons_of_length_eq_add_one h
 replace h : xs.length = 8 := by simpa using h
 obtain ⟨x24, xs, rfl⟩ := List.exists_cons_of_length_eq_add_one h
 replace h : xs.length = 7 := by simpa using h
 obtain ⟨x25, xs, rfl⟩ := List.exists_cons_of_length_eq_add_one h
 replace h : xs.length = 6 := by simpa using h
 obtain ⟨x26, xs, rfl⟩ := List.exists_cons_of_length_eq_add_one h
 replace h : xs.length = 5 := by simpa using h
 obtain ⟨x27, xs, rfl⟩ := List.exists_cons_of_length_eq_add_one h
 replace h : xs.length = 4 := by simpa using h
 obtain ⟨x28, xs, rfl⟩ := List.exists_cons_of_length_eq_add_one h
 replace h : xs.length = 3 := by simpa using h
 obtain ⟨x29, xs, rfl⟩ := List.exists_cons_of_length_eq_add_one h
 replace h : xs.length = 2 := by simpa using h
 obtain ⟨x30, xs, rfl⟩ := List.exists_cons_of_length_eq_add_one h
 replace h : xs.length = 1 := by simpa using h
 obtain ⟨x31, xs, rfl⟩ := List.exists_cons_of_length_eq_add_one h
 replace h : xs.length = 0 := by simpa using h
 obtain rfl := List.eq_nil_of_length_eq_zero h
 exact built_rec' x0 x1 x2 x3 x4 x5 x6 x7 x8 x9 x10 x11 x12 x13 x14 x15 x16 x17 x18 x19 x20 x21 x22 x23 x24 x25 x26 x27 x28 x29 x30 x31 a b c
end Go.Proofs.YtmibndkofoldkaaGreatDoor
