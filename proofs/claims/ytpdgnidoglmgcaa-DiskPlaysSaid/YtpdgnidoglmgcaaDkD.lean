/- Disks: forgotten, synced, cut. No condition but the disk's own. -/
import Derived.Test.YtpdgnidoglmgcaaDkC
namespace Go.Proofs.Ytpdgnidoglmgcaa
open Go.RowKit Go.Maps

def DP.forget (p : DP) : DP := { p with fresh := fun _ => none, order := [] }
theorem DP.Ok.forget {p : DP} (h : p.Ok) : p.forget.Ok := ⟨h.s1, h.s2, h.sureR, by simp [DP.forget], by simp [DP.forget], by simp [DP.forget], h.fz⟩
theorem forget_in {w : World} {base g bs bf : Nat} {v : Value} {p : DP} (h : Dk w base g bs bf v p) : Calls Try.prog 23 #[.pointer (some ⟨g, 0, none⟩)] w fun e w' => e = .returned (.tuple #[]) ∧ Dk w' base g bs bf (.slice none 0 0) p.forget ∧ Fr (fun k => k = g ∨ k = bf) w w' := by
  have H := Lib.hid h
  have c2 := h.blk.cell 2
  clear h
  go_enter Try.func23, Try.ntmps23
  go_wp2_with ((with_reducible refine atOp ⟨none, .call _, _, _, _, _⟩ ?_); refine wpList_mclear H.out.mw Try.underlying55 rfl (.tmp 5) rfl rfl ?_; intro w1 hM1 hF1; have hB1 := H.out.blk.fr hF1 H.out.gf; have d3 := hB1.cell 3; have f3 := hB1.frozen 3; have HM1 := Lib.hid hM1; have HF1 := Lib.hid hF1; have HB1 := Lib.hid hB1; clear hM1 hF1 hB1)
  go_end0
  have hF2 : Fr (fun k => k = g) w1 (w1.setCell ⟨g, 3, none⟩ (.slice none 0 0)) := (Fr.refl _ _).setCell (S := fun k => k = g) (p := ⟨g, 3, none⟩) (fun _ => rfl) _
  refine ⟨rfl, ⟨HB1.out.set 3 _, (H.out.ms.fr HF1.out H.out.ne).fr hF2 (fun e => H.out.gs e.symm), ?_, World.ownsRow_nil _ _ _ _, H.out.ne, H.out.lo, H.out.ok.forget⟩, (HF1.out.mono fun b _ hb => .inr hb).trans (hF2.mono fun b _ hb => .inl hb)⟩
  have := (HM1.out.fr hF2 (fun e => H.out.gf e.symm)).mono (show 0 ≤ p.size by omega)
  rw [← mf_none] at this
  exact this

set_option maxHeartbeats 4000000 in
set_option maxRecDepth 100000 in
theorem copy_any (bd bs nd ns : Nat) (fd fs : Lit → Option Value) (w : World) (hd : MapAt w Try.prog 3 bd nd fd) (hs : MapAt w Try.prog 3 bs ns fs) (hne : bd ≠ bs) (hsec : ∀ kl v, fs kl = some v → ∃ s, v = .agg (secA s) ∧ SecOk s) (hroom : nd + ns ≤ maxLen) :
    Calls Try.prog 22 #[.map (some bd), .map (some bs)] w fun e w' => e = .returned (.tuple #[]) ∧ MapAt w' Try.prog 3 bd (nd + ns) (orF fs fd) ∧ Fr (fun k => k = bd) w w' := by
  obtain ⟨Dd, hd, hfd⟩ := hd
  obtain ⟨Ds, hs, hfs⟩ := hs
  have hbd := hd.lt
  have hbs := hs.lt
  have hsz := hs.size_le
  have HFD := Lib.hid hfd
  have HFS := Lib.hid hfs
  have HSEC := Lib.hid hsec
  clear hfd hfs hsec
  go_enter Try.func22, Try.ntmps22
  go_wp2_with (at_range; refine wpList_range_own _ rfl _ 55 rfl 3 31 kI Try.underlying55 Rv bs ns _ rfl hs ?_; intro w0 hrg0 hg0 hs0)
  go_frame
  go_loopw [8] (fun _ wr => ∃ (left : Lit → Bool) (cnt : Nat) (Dout : DataW Value), wr.ranges Try.prog 3 Rv bs w.heap.size ns Ds left cnt ∧ cnt ≤ Maps.size Ds ∧
      wr.ownsMap Try.prog 3 Rv bd (nd + (Maps.size Ds - cnt)) Dout ∧ Merged Dout Dd Ds left ∧ Hid (Fr (fun k => k = bd) w wr))
    (fun _ wr => wr.rangeLeft bs w.heap.size)
  case atStart =>
    exact ⟨_, _, Dd, hrg0, Nat.le_refl _, (hd.kept hg0 (by simp)).mono (by omega), merged_start Dd Ds, Lib.hid ((Fr.refl _ w).grown hg0 (fun k _ h => by cases h))⟩
  case round =>
    obtain ⟨left, cnt, Dout, hrg, hcs, hout, hM, HFW⟩ := hrel
    go_wp2_with (at_next; refine wpList_next_ranges _ rfl _ rfl 3 kI Rv id id (fun key _ _ => ⟨key, rfl⟩) (fun v _ _ => ⟨v, rfl⟩) bs w.heap.size ns _ _ _ rfl hrg ?_ ?_)
    · intro hc0 hl0
      go_wp2_with fail
      go_end0
      subst hc0
      exact ⟨rfl, ⟨Dout, hout.mono (by omega), merged_end hM hl0 HFD.out HFS.out⟩, HFW.out⟩
    · intro x c kl yd yp w1 cnt1 hkey hlx hv hat hrg1 hlt hg1 hs1 hen
      have hy : yd = .held c ∧ yp = [] := by unfold Rv at hv; injection hv with hv; injection hv with h1 h2; exact ⟨h1.symm, h2.symm⟩
      obtain ⟨s, hcs1, hsok⟩ := HSEC.out kl c (by
        rw [HFS.out kl, Maps.has_true_of_atKey hat, if_pos rfl, hat, hy.1]; rfl)
      rw [hcs1] at hen
      have hkey' : keyOf Try.prog 3 x = some kl := hkey
      obtain ⟨w2, hw2⟩ : ∃ w2 : World, w2 = w1.alloc (.cells (secA s) 31) := ⟨_, rfl⟩
      have hN2 : New w1 w2 := by rw [hw2]; exact New.al (New.refl _) _
      have hb2 : Blk w2 w1.heap.size 31 (secA s) := by rw [hw2]; exact Blk.new _ _ _
      have hg12 : w1.grownBy w2 none := by rw [hw2]; exact World.grownBy_alloc _ _ _
      have hout2 := (hout.kept hg1 (fun e => by have := Option.some.inj e; omega)).kept hg12 (by simp)
      have hrg2 := hrg1.kept hg12 (by simp) (by simp)
      have hv2 : Rv (.agg (secA s)) = some (yd, yp) := by rw [hy.1, hy.2, hcs1]; rfl
      have HW2 : Hid (w1.alloc (.cells (secA s) 31) = w2) := Lib.hid hw2.symm
      have HB2 := Lib.hid hb2
      have HSO := Lib.hid hsok
      have HG1 := Lib.hid hg1
      have HG12 := Lib.hid hg12
      have HY := Lib.hid hy
      have HCS := Lib.hid hcs1
      clear hw2 hb2 hsok hN2 hs0 hs1 hg1 hg12 hy hv
      subst hcs1
      go_wp2_with (first
        | ((with_reducible refine atOp ⟨some 5, .alloc _, _, _, _, _⟩ ?_); refine wpList_alloc_sec rfl rfl secInfo ?_)
        | ((with_reducible refine atOp ⟨none, .store 31 _ _, _, _, _, _⟩ ?_); refine wpList_store_last rfl (.tmp 5) (.tmp 12) rfl rfl sec0_ok.1 HSO.out.1 rfl rfl ?_; rw [HW2.out])
        | ((with_reducible refine atOp ⟨some 15, .load _ _, _, _, _, _⟩ ?_); refine wpList_load_blk (s := s) rfl _ rfl Try.underlying31 rfl rfl HB2.out HSO.out.1 ?_)
        | (at_mapUpdate; refine wpList_mapUpdate_own _ rfl _ _ _ 55 rfl 3 31 kI Try.underlying55 Rv bd _ _ rfl hout2 (by omega) _ _ _ rfl rfl hkey' yd yp hv2 ?_; intro w3 hout3 hg3; go_frame))
      have hrg3 := hrg2.kept hg3 (fun e => hne (Option.some.inj e).symm) (fun e => by have := Option.some.inj e; omega)
      go_roundw
      case rel =>
        refine ⟨_, cnt1, _, hrg3, by omega, hout3.mono (by omega), ?_, Lib.hid (((HFW.out.grown HG1.out (fun k hk e => by cases e; exact absurd hk (Nat.lt_irrefl _))).grown HG12.out (fun k _ e => by cases e)).grown hg3 (fun k _ e => by cases e; rfl))⟩
        exact merged_step hM hout.isMap (kI.key hkey) hat
      case measure => rw [hrg3.left_eq, hrg.left_eq]; exact hlt
theorem sync_nil (w : World) : Calls Try.prog 9 #[.pointer none] w fun e w' => e = .returned (.iface 45 (.int .i64 11)) ∧ w = w' := by
  go_enter Try.func9, Try.ntmps9
  go_wp2_with fail
  go_ret
  exact ⟨rfl, rfl⟩
theorem sync_down {w : World} {base g bs bf : Nat} {v : Value} {p : DP} (h : Dk w base g bs bf v p) (hd : p.down = true) : Calls Try.prog 9 #[.pointer (some ⟨g, 0, none⟩)] w fun e w' => e = .returned (.iface 45 (.int .i64 14)) ∧ w = w' := by
  have c5 : w.cell? ⟨g, 5, none⟩ = some (.bool true) := by rw [h.blk.cell 5]; simp [hd]
  clear h hd
  go_enter Try.func9, Try.ntmps9
  go_wp2_with fail
  go_ret
  exact ⟨rfl, rfl⟩
theorem sync_in {w : World} {base g bs bf : Nat} {v : Value} {p : DP} (h : Dk w base g bs bf v p) (hd : p.down = false) : Calls Try.prog 9 #[.pointer (some ⟨g, 0, none⟩)] w fun e w' => e = .returned .nilIface ∧ Dk w' base g bs bf (.slice none 0 0) p.sync ∧ Fr (fun k => k = g ∨ k = bs ∨ k = bf) w w' := by
  have H := Lib.hid h
  have c5 : w.cell? ⟨g, 5, none⟩ = some (.bool false) := by rw [h.blk.cell 5]; simp [hd]
  have c1 : w.cell? ⟨g, 1, none⟩ = some (.map (some bs)) := h.blk.cell 1
  have c2 : w.cell? ⟨g, 2, none⟩ = some (.map (some bf)) := h.blk.cell 2
  have hroom : p.size + p.size ≤ maxLen := by have := h.ok.s2; unfold maxLen; omega
  have HR := Lib.hid hroom
  clear h hd hroom
  go_enter Try.func9, Try.ntmps9
  go_wp2_with fail
  go_region_held3 (fun w' => w'.cell? ⟨g, 1, none⟩ = some (.map (some bs)) ∧ w'.cell? ⟨g, 2, none⟩ = some (.map (some bf)))
    (first | exact hS1 | go_keep)
    ((go_at_call 22; refine (copy_any bs bf p.size p.size _ _ _ (H.out.ms.fr (S := NoB) ((Fr.refl _ w).drew) (fun x => x)) (H.out.mw.fr (S := NoB) ((Fr.refl _ w).drew) (fun x => x)) H.out.ne (fun kl v hv => mf_shape H.out.ok.freshR hv) HR.out).mono ?_; rintro e w1 ⟨rfl, hM1, hF1⟩; have hB1 := H.out.blk.drew.fr hF1 H.out.gs; have hS1 : w1.cell? ⟨g, 1, none⟩ = some (.map (some bs)) ∧ w1.cell? ⟨g, 2, none⟩ = some (.map (some bf)) := ⟨hB1.cell 1, hB1.cell 2⟩; have HM1 := Lib.hid hM1; have HF1 := Lib.hid hF1.ofDrew; have HB1 := Lib.hid hB1; clear hM1 hF1 hB1))
  go_wp2_with fail
  have hD1 : Dk w1 base g bs bf v { p with sure := p.sync.sure } := by
    refine ⟨HB1.out, ?_, H.out.mw.fr HF1.out (fun e => H.out.ne e.symm), own_fr H.out.own HF1.out (fun k hk => H.out.vs k hk), H.out.ne, H.out.lo, ⟨H.out.ok.s1, H.out.ok.s2, H.out.ok.sync.sureR, H.out.ok.freshR, H.out.ok.nod, H.out.ok.ord, H.out.ok.fz⟩⟩
    have := HM1.out
    rw [mf_or] at this
    exact this.tight kI _ fun kl hk => mf_keys H.out.ok.sync.sureR kl hk
  refine (forget_in hD1).mono ?_
  rintro e w2 ⟨rfl, hD2, hF2⟩
  have HD2 := Lib.hid hD2
  have HF2 := Lib.hid hF2
  clear hD2 hF2 hD1
  go_wp2_with fail
  go_ret
  exact ⟨rfl, HD2.out, (HF1.out.mono fun b _ hb => .inr (.inl hb)).trans (HF2.out.mono fun b _ hb => hb.imp id .inr)⟩

end Go.Proofs.Ytpdgnidoglmgcaa
