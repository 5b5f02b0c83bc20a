/- Texts of one proof, one behind the other: ClH, ClI, ClJ. No condition but each one's own. -/
import Derived.Test.YtmibndkofoldkaaGreatDoorClientNilM31
namespace Go.Proofs.YtmibndkofoldkaaGreatDoor
set_option linter.unusedVariables false
set_option linter.unusedSimpArgs false
set_option linter.constructorNameAsVariable false
open Go.RowKit Go.Sort Go.Maps
set_option maxHeartbeats 4000000
set_option maxRecDepth 100000
def optV (a b d : Int) : Value := .agg #[.int .i64 a, .int .i64 b, .int .i64 d]
def noCl (n : Int) : Value := .tuple #[.pointer none, .iface 55 (.int .i64 n)]
theorem copen_nil (key : List Int) (a b d : Int) (w : World) (hk : key.length = 16) : Calls Tryz.prog 28 #[.pointer none, .agg (secA key), optV a b d] w fun e w' => e = .returned (noCl 11) ∧ New w w' := by
 obtain ⟨KA, hKA⟩ := nm (secA key)
 rw [← hKA]
 clear hKA
 unfold optV noCl
 go_enter Tryz.func28, Tryz.ntmps28
 go_wp2_with fail
 refine (kopen_nil _).mono ?_
 rintro e w1 ⟨rfl, rfl⟩
 rw [errD_n (by decide)]
 go_wp2_with fail
 go_ret2
 exact ⟨rfl, (New.refl _).al2 _ _⟩
theorem copen_small {W : World} {gd : Nat} {p : DP} (key : List Int) (a b d : Int) (w : World) (h : Dsk W w gd p) (hp : p.size < 4) : Calls Tryz.prog 28 #[.pointer (some ⟨gd, 0, none⟩), .agg (secA key), optV a b d] w fun e w' => e = .returned (noCl 1) ∧ New w w' := by
 obtain ⟨KA, hKA⟩ := nm (secA key)
 rw [← hKA]
 have H := Lib.hid h
 have HP := Lib.hid hp
 clear hKA h hp
 unfold optV noCl
 go_enter Tryz.func28, Tryz.ntmps28
 go_wp2_with fail
 refine calls_world fun w1 hw1 => ?_
 have HN1 : Hid (New w w1) := Lib.hid (by rw [hw1.out]; exact (New.refl _).al2 _ _)
 clear hw1
 obtain ⟨bs, bf, v, hD, -⟩ := H.out.new HN1.out
 refine (kopen_small hD HP.out).mono ?_
 rintro e w2 ⟨rfl, hw2⟩
 subst hw2
 clear hD
 rw [errD_n (by decide)]
 go_wp2_with fail
 go_ret2
 exact ⟨rfl, HN1.out⟩
theorem copen_none {W : World} {gd : Nat} {p : DP} {k : KR} (key : List Int) (a b d : Int) (w : World) (h : Dsk W w gd p) (hL : ShaIn 3 1 W) (hk : Kst p k) (h0 : k.number = 0) :
    Calls Tryz.prog 28 #[.pointer (some ⟨gd, 0, none⟩), .agg (secA key), optV a b d] w fun e w' => e = .returned (noCl 11) ∧ New w w' := by
 obtain ⟨KA, hKA⟩ := nm (secA key)
 rw [← hKA]
 have H := Lib.hid h
 have HOP := Lib.hid (fun W' (h : Dsk W W' gd p) => kopen_d h hL hk.sz)
 rw [hk.toKop.opens] at HOP
 have HNO : Hid (k.now = rc0 ∧ decide (0 < k.number) = false) := Lib.hid ⟨(hk.toKop.z h0).1, by rw [h0]; rfl⟩
 have HZ : Hid (rc0.cells.size = 37 ∧ rc0.cells.all (·.oneCell') = true) := Lib.hid ⟨rfl, Rc.one _⟩
 clear hKA h hk hL h0
 unfold optV noCl
 go_enter Tryz.func28, Tryz.ntmps28
 go_wp2_with fail
 refine calls_world fun w1 hw1 => ?_
 have HN1 : Hid (New w w1) := Lib.hid (by rw [hw1.out]; exact (New.refl _).al2 _ _)
 clear hw1
 refine (HOP.out w1 (H.out.new HN1.out)).mono ?_
 rintro e w2 ⟨bk, rfl, hK, hN2⟩
 have HKP := Lib.hid hK.kp
 have HN2 : Hid (New w w2) := Lib.hid (HN1.out.tr hN2)
 clear hK hN2
 go_wp2_with fail
 refine (kget_kp HKP.out).mono ?_
 rintro e w3 ⟨rfl, hN3⟩
 rw [HNO.out.1, HNO.out.2]
 have HN3 : Hid (New w w3) := Lib.hid (HN2.out.tr hN3)
 clear hN3
 obtain ⟨RA, hRA⟩ := nm rc0.cells
 rw [← hRA] at HZ ⊢
 clear hRA
 go_wp2_with ((with_reducible refine atOp ⟨some 10, .alloc _, _, _, _, _⟩ ?_); refine wpList_newrow rfl rfl rfl (.tmp 10) (.tmp 27) rfl rc37Info rfl rfl rfl HZ.out.1 HZ.out.2 ?_)
 go_ret2
 exact ⟨rfl, HN3.out.al _⟩
theorem copen_bad {W : World} {gd : Nat} {p : DP} {k : KR} (key : List Int) (a b d : Int) (w : World) (h : Dsk W w gd p) (hL : ShaIn 3 1 W) (hk : Kst p k) (h0 : 0 < k.number) (hbad : a < 1 ∨ b < a ∨ 65536 < b ∨ d < 1 ∨ 1000 < d) :
    Calls Tryz.prog 28 #[.pointer (some ⟨gd, 0, none⟩), .agg (secA key), optV a b d] w fun e w' => e = .returned (noCl 1) ∧ New w w' := by
 obtain ⟨KA, hKA⟩ := nm (secA key)
 rw [← hKA]
 have H := Lib.hid h
 have HOP := Lib.hid (fun W' (h : Dsk W W' gd p) => kopen_d h hL hk.sz)
 rw [hk.toKop.opens] at HOP
 have HNO : Hid (decide (0 < k.number) = true) := Lib.hid (decide_eq_true h0)
 have HZ : Hid (k.now.cells.size = 37 ∧ k.now.cells.all (·.oneCell') = true) := Lib.hid ⟨Rc.size (hk.toKop.nz h0).2.1.len, Rc.one _⟩
 have HBD := Lib.hid hbad
 clear hKA h hk hL h0 hbad
 unfold optV noCl
 go_enter Tryz.func28, Tryz.ntmps28
 go_upto_region 1 with fail
 obtain ⟨b5, hb5⟩ := nm (w.heap.size + 1)
 refine wp_world fun w1 hw1 => ?_
 have HN1 : Hid (New w w1) := Lib.hid (by rw [hw1.out]; exact (New.refl _).al2 _ _)
 have HB1 : Hid (Blk w1 b5 32 #[.int .i64 a, .int .i64 b, .int .i64 d]) := Lib.hid (by rw [hw1.out, hb5]; exact Blk.new' _ _ _ (by simp))
 rw [← hb5]
 clear hw1 hb5
 go_wp2_with fail
 refine (HOP.out w1 (H.out.new HN1.out)).mono ?_
 rintro e w2 ⟨bk, rfl, hK, hN2⟩
 have HKP := Lib.hid hK.kp
 have HN2 : Hid (New w w2) := Lib.hid (HN1.out.tr hN2)
 have HB2 := Lib.hid (hN2.blk HB1.out)
 clear hK hN2 HB1
 go_wp2_with fail
 refine (kget_kp HKP.out).mono ?_
 rintro e w3 ⟨rfl, hN3⟩
 rw [HNO.out]
 have HN3 : Hid (New w w3) := Lib.hid (HN2.out.tr hN3)
 have HB3 := Lib.hid (hN3.blk HB2.out)
 clear hN3 HB2
 obtain ⟨RA, hRA⟩ := nm k.now.cells
 rw [← hRA] at HZ ⊢
 clear hRA
 go_upto_region 7 with ((with_reducible refine atOp ⟨some 10, .alloc _, _, _, _, _⟩ ?_); refine wpList_newrow rfl rfl rfl (.tmp 10) (.tmp 27) rfl rc37Info rfl rfl rfl HZ.out.1 HZ.out.2 ?_)
 refine wp_world fun w4 hw4 => ?_
 have hN4 : New w3 w4 := by rw [hw4.out]; exact New.al (New.refl _) _
 have HN4 : Hid (New w w4) := Lib.hid (HN3.out.tr hN4)
 have HB4 := Lib.hid (hN4.blk HB3.out)
 clear hw4 hN4 HB3
 have c0 := HB4.out.cell 0
 have c1 := HB4.out.cell 1
 have c2 := HB4.out.cell 2
 go_wp2_with fail
 refine (new_bad_l26 a b d w4 HBD.out).mono ?_
 rintro e w5 ⟨rfl, hw5⟩
 subst hw5
 go_wp2_with fail
 go_ret2
 exact ⟨rfl, HN4.out⟩
end Go.Proofs.YtmibndkofoldkaaGreatDoor
namespace Go.Proofs.YtmibndkofoldkaaGreatDoor
set_option linter.unusedVariables false
set_option linter.unusedSimpArgs false
set_option linter.constructorNameAsVariable false
open Go.RowKit Go.Sort Go.Maps
structure RcAt (b : Nat) (r : Rc) (w : World) : Prop where
 root : w.rangeAt b 0 (u8s r.root)
 blocks : w.cell? ⟨b, 32, none⟩ = some (.int .u64 r.blocks)
 epoch : w.cell? ⟨b, 33, none⟩ = some (.int .u64 r.epoch)
 limit : w.cell? ⟨b, 35, none⟩ = some (.int .u64 r.limit)
 session : w.cell? ⟨b, 36, none⟩ = some (.int .u64 r.session)
theorem RcAt.of {b T : Nat} {r : Rc} {w : World} (hr : r.root.length = 32) (h : Blk w b T r.cells) : RcAt b r w := by
 have hc : ∀ i, w.cell? ⟨b, i, none⟩ = (u8s r.root ++ ([Value.int .u64 r.blocks, .int .u64 r.epoch, .int .u64 r.since, .int .u64 r.limit, .int .u64 r.session] ++ []))[i]? := fun i => by
  rw [h.cell i]
  unfold Rc.cells
  rw [List.getElem?_toArray, List.append_nil]
 have l1 : (u8s r.root).length = 32 := by rw [u8s_len, hr]
 refine ⟨fun j v hv => ?_, ?_, ?_, ?_, ?_⟩
 · rw [hc, Nat.zero_add, List.getElem?_append_left (List.getElem?_eq_some_iff.1 hv).1]; exact hv
 · rw [hc]; exact hd_sub (i := 0) l1 rfl
 · rw [hc]; exact hd_sub (i := 1) l1 rfl
 · rw [hc]; exact hd_sub (i := 3) l1 rfl
 · rw [hc]; exact hd_sub (i := 4) l1 rfl
theorem rc_ses {r : Rc} (hr : r.root.length = 32) (s : Nat) : r.cells.setIfInBounds 36 (.int .u64 s) = ({ r with session := s } : Rc).cells := by
 unfold Rc.cells
 rw [List.setIfInBounds_toArray, List.set_append_right _ _ (by rw [u8s_len, hr]; decide), u8s_len, hr]
 rfl
def Alien (w : World) (k : Nat) : Prop := ∃ t cs, Blk w k t cs ∧ t ≠ 138 ∧ t ≠ 3 ∧ t ≠ 214
theorem Kpr.fr {S : Nat → Prop} {W w w' : World} {gd gk : Nat} {p : DP} {k : KR} (h : Kpr W w gd gk p k) (hF : Fr S w w') (hs : ∀ b, S b → W.heap.size ≤ b ∧ Alien w b) : Kpr W w' gd gk p k := by
 obtain ⟨bs, bf, v, h1, h2, h3, h4⟩ := h
 refine ⟨bs, bf, v, h1.fr hF (fun b hb => ?_), h2.fr hF (fun hb => ?_), h3, h4.fr hF (fun b hb => (hs b hb).1)⟩
 · obtain ⟨-, t, cs, hB, e1, e2, -⟩ := hs b hb
   exact dk_notBlk h1 hB (Blk.ne_ hB h1.blk e1) e2
 · obtain ⟨-, t, cs, hB, -, -, e3⟩ := hs gk hb
   exact Blk.ne_ hB h2.blk e3 rfl
theorem Slr.fr {S : Nat → Prop} {w w' : World} {gs : Nat} {key : List Int} (h : Slr w gs key) (hF : Fr S w w') (hs : ∀ b, S b → ∃ t cs, Blk w b t cs ∧ t ≠ 227 ∧ t ≠ 286) : Slr w' gs key := by
 obtain ⟨b, h1, h2⟩ := h
 refine ⟨b, h1.fr hF (fun hb => ?_), BR.cip (h2.br.fr hF (fun hb => ?_))⟩
 · obtain ⟨t, cs, hB, e1, -⟩ := hs _ hb
   exact Blk.ne_ hB h1 e1 rfl
 · obtain ⟨t, cs, hB, -, e2⟩ := hs _ hb
   obtain ⟨L, -, -, h3⟩ := h2
   exact Blk.ne_ hB h3 e2 rfl
def ClOpened (W : World) (gd : Nat) (r' : Rc) (n : Nat) (key : List Int) (a b d pf : Int) (e : Ending) (w' : World) : Prop :=
 ∃ gc gk_ gs gw gt v' vt vw r p', e = .returned (.tuple #[.pointer (some ⟨gc, 0, none⟩), .nilIface]) ∧
     Blk w' gc 109 (Cm.cells { cmNew r' gk_ gs key gw gt with given := 1, fr := v' }).toArray ∧ v'.oneCell' = true ∧ FrIn w' W.heap.size v' [frmL (linkK key) 1 r'.session (rqE 0 4 r'.epoch)] ∧
     Tm_l26 w' W.heap.size gt vt [⟨0, tickZ 0, tickZ 0 + r, r, 1⟩] a b d 9221120237041090561 ∧ WinC w' W.heap.size gw vw [⟨0, itL 0 0 (rmE 0 4 r'.epoch) true, rp0, false⟩] 1 ∧ Slr w' gs key ∧ W.heap.size ≤ gc ∧
     Kpr W w' gd gk_ p' ⟨n, r', false⟩ ∧ Kst p' ⟨n, r', false⟩ ∧ p'.fuse = pf
set_option maxHeartbeats 8000000
set_option maxRecDepth 100000
theorem copen_ok {W : World} {gd : Nat} {p : DP} {k : KR} (key : List Int) (a b d : Int) (w : World) (h : Dsk W w gd p) (hL : ShaIn 3 1 W) (hk : Kst p k) (h0 : 0 < k.number) (hf : p.fuse ≠ 0 ∧ p.fuse ≠ 1) (hm : k.number < 18446744073709551613) (hse : k.now.session < 18446744073709551615) (hky : key.length = 16 ∧ Byt key)
    (ha : 1 ≤ a) (hab : a ≤ b) (hb : b ≤ 65536) (hd : 1 ≤ d) (hdd : d ≤ 1000) :
    Calls Tryz.prog 28 #[.pointer (some ⟨gd, 0, none⟩), .agg (secA key), optV a b d] w fun e w' => ClOpened W gd { k.now with session := k.now.session + 1 } (k.number + 1) key a b d (if 1 < p.fuse then p.fuse - 2 else p.fuse) e w' := by
 obtain ⟨pf, hpf⟩ := nm (if 1 < p.fuse then p.fuse - 2 else p.fuse)
 rw [← hpf]
 have hkn := hk.toKop.nz h0
 obtain ⟨R1, hR1⟩ : ∃ R1 : Rc, R1 = { k.now with session := k.now.session + 1 } := ⟨_, rfl⟩
 rw [← hR1]
 have hr1o : R1.Ok := by rw [hR1]; exact ⟨hkn.2.1.len, hkn.2.1.byt, hkn.2.1.blocks, hkn.2.1.epoch, hkn.2.1.since, hkn.2.1.limit, by show k.now.session + 1 < _; omega⟩
 have hr1r : R1.Right := by rw [hR1]; exact ⟨hkn.2.2.1.blocks1, hkn.2.2.1.blocks2, hkn.2.2.1.since1, hkn.2.2.1.since2, hkn.2.2.1.epoch⟩
 have HR1 := Lib.hid (And.intro hr1o (And.intro hR1 hkn.2.1))
 have HSV := Lib.hid (hk.save hf hr1o hm)
 rw [if_pos hr1r, ← hpf] at HSV
 have HSA := Lib.hid (fun W' gk (h : Kpr W W' gd gk p k) => ksave_d h hL R1 hr1o)
 have HOP := Lib.hid (fun W' (h : Dsk W W' gd p) => kopen_d h hL hk.sz)
 rw [hk.toKop.opens] at HOP
 have HNO : Hid (decide (0 < k.number) = true) := Lib.hid (decide_eq_true h0)
 have HZ : Hid (k.now.cells.size = 37 ∧ k.now.cells.all (·.oneCell') = true) := Lib.hid ⟨Rc.size hkn.2.1.len, Rc.one _⟩
 have HZ1 : Hid (R1.cells.size = 37 ∧ R1.cells.all (·.oneCell') = true) := Lib.hid ⟨Rc.size hr1o.len, Rc.one _⟩
 have HRS : Hid (k.now.cells.setIfInBounds 36 (.int .u64 (k.now.session + 1 : Nat)) = R1.cells) := Lib.hid (by rw [hR1]; exact rc_ses hkn.2.1.len _)
 have HRA := Lib.hid (fun W' b (h : Blk W' b 63 k.now.cells) => (RcAt.of hkn.2.1.len h).session)
 have HRB := Lib.hid (fun W' b (h : Blk W' b 63 R1.cells) => RcAt.of hr1o.len h)
 have HOPT := Lib.hid (And.intro ha (And.intro hab (And.intro hb (And.intro hd hdd))))
 have HKY := Lib.hid hky
 have HL := Lib.hid hL
 have H := Lib.hid h
 have HSN := Lib.hid (fun W' (hL : ShaIn 3 1 W') => sealnew_any key W' hL hky)
 have HKO := Lib.hid (fun W' (hL : ShaIn 3 1 W') => keysOf_any key W' hL hky)
 obtain ⟨KA, hKA⟩ := nm (secA key)
 have HKA : Hid (KA = secA key ∧ KA.size = 16) := Lib.hid ⟨hKA, by rw [hKA, secA_size, hky.1]⟩
 rw [← hKA] at HSN HKO ⊢
 obtain ⟨SA, hSA⟩ := nm (secA (setL key))
 have HSS := Lib.hid hSA
 rw [← hSA] at HKO
 obtain ⟨RA, hRA⟩ := nm k.now.cells
 obtain ⟨RB, hRB⟩ := nm R1.cells
 rw [← hRA] at HZ HRS HRA
 rw [← hRB] at HZ1 HRS HRB HSA
 have HRBe := Lib.hid hRB
 have HRAe := Lib.hid hRA
 obtain ⟨s0, hs0⟩ := nm k.now.session
 rw [← hs0] at HRS HRA
 have hsq : ((s0 : Int) == 18446744073709551615) = false := by simp; omega
 have hsw : IntKind.u64.wrap ((s0 : Int) + 1) = ((s0 + 1 : Nat) : Int) := by rw [IntKind.wrap_u64]; omega
 obtain ⟨s1, hs1⟩ := nm (s0 + 1)
 rw [← hs1] at hsw HRS
 have HS1 : Hid (R1.session = s1) := Lib.hid (by rw [hR1, hs1, hs0])
 have HHR : Hid (R1 = { k.now with session := k.now.session + 1 }) := Lib.hid hR1
 have HPF := Lib.hid hpf
 clear hky ha hab hb hd hdd h hL hk h0 hf hm hse hkn hR1 hr1o hr1r hKA hSA hRA hRB hs0 hs1 hpf
 unfold optV
 go_enter Tryz.func28, Tryz.ntmps28
 go_upto_region 1 with fail
 obtain ⟨b4, hb4⟩ := nm w.heap.size
 obtain ⟨b5, hb5⟩ := nm (w.heap.size + 1)
 refine wp_world fun w1 hw1 => ?_
 have HN1 : Hid (New w w1) := Lib.hid (by rw [hw1.out]; exact (New.refl _).al2 _ _)
 have HB41 : Hid (Blk w1 b4 23 KA) := Lib.hid (by rw [hw1.out, hb4]; exact (Blk.new _ _ _).alloc _)
 have HB1 : Hid (Blk w1 b5 32 #[.int .i64 a, .int .i64 b, .int .i64 d]) := Lib.hid (by rw [hw1.out, hb5]; exact Blk.new' _ _ _ (by simp))
 rw [← hb5, ← hb4]
 clear hw1 hb5 hb4
 go_wp2_with fail
 refine (HOP.out w1 (H.out.new HN1.out)).mono ?_
 rintro e w2 ⟨bk, rfl, hK, hN2⟩
 have HK2 := Lib.hid hK
 have HB2 := Lib.hid (hN2.blk HB1.out)
 have HB42 := Lib.hid (hN2.blk HB41.out)
 clear hK hN2 HB1 HB41
 go_wp2_with fail
 refine (kget_kp HK2.out.kp).mono ?_
 rintro e w3 ⟨rfl, hN3⟩
 rw [HNO.out, ← HRAe.out]
 have HK3 := Lib.hid (HK2.out.new hN3)
 have HB3 := Lib.hid (hN3.blk HB2.out)
 have HB43 := Lib.hid (hN3.blk HB42.out)
 clear hN3 HB2 HB42 HK2
 go_upto_region 7 with ((with_reducible refine atOp ⟨some 10, .alloc _, _, _, _, _⟩ ?_); refine wpList_newrow rfl rfl rfl (.tmp 10) (.tmp 27) rfl rc37Info rfl rfl rfl HZ.out.1 HZ.out.2 ?_)
 obtain ⟨b10, hb10⟩ := nm w3.heap.size
 refine wp_world fun w4 hw4 => ?_
 have hN4 : New w3 w4 := by rw [hw4.out]; exact New.al (New.refl _) _
 have HK4 := Lib.hid (HK3.out.new hN4)
 have HB4 := Lib.hid (hN4.blk HB3.out)
 have HB44 := Lib.hid (hN4.blk HB43.out)
 have HB104 : Hid (Blk w4 b10 63 RA) := Lib.hid (by rw [hw4.out, hb10]; exact Blk.new _ _ _)
 have HG10 : Hid (W.heap.size ≤ b10) := Lib.hid (by rw [hb10]; exact HK3.out.nw.size)
 rw [← hb10]
 clear hw4 hN4 HB3 HB43 HK3 hb10
 have c0 := HB4.out.cell 0
 have c1 := HB4.out.cell 1
 have c2 := HB4.out.cell 2
 go_wp2_with fail
 clear c0 c1 c2
 obtain ⟨gt, hgt⟩ := nm w4.heap.size
 have HNT := Lib.hid (new_any_l26 a b d W.heap.size w4 HOPT.out.1 HOPT.out.2.1 HOPT.out.2.2.1 HOPT.out.2.2.2.1 HOPT.out.2.2.2.2 HK4.out.nw.size)
 rw [← hgt] at HNT
 clear hgt
 refine HNT.out.mono ?_
 rintro e w5 ⟨rfl, hT, hN5⟩
 have HT5 := Lib.hid hT
 have HK5 := Lib.hid (HK4.out.new hN5)
 have HB45 := Lib.hid (hN5.blk HB44.out)
 have HB105 := Lib.hid (hN5.blk HB104.out)
 clear hT hN5 HNT HK4 HB44 HB104 HB4
 have c36 := HRA.out _ _ HB105.out
 go_wp2_with fail
 clear c36
 refine (wnew_any w5 W.heap.size HK5.out.nw.size).mono ?_
 rintro e w6 ⟨gw, rfl, hW6, -, hN6⟩
 have HW6 := Lib.hid hW6
 have HT6 := Lib.hid (HT5.out.new hN6)
 have HK6 := Lib.hid (HK5.out.new hN6)
 have HB46 := Lib.hid (hN6.blk HB45.out)
 have HB106 := Lib.hid (hN6.blk HB105.out)
 clear hW6 hN6 HT5 HK5 HB45 HB105
 have c36 := HRA.out _ _ HB106.out
 have f36 : w6.frozen? ⟨b10, 36, none⟩ = false := HB106.out.frozen 36
 go_upto_region 16 with fail
 clear c36 f36
 refine wp_world fun w7 hw7 => ?_
 have hF7 : Fr (fun j => j = b10) w6 w7 := by rw [hw7.out]; exact (Fr.refl (fun j => j = b10) w6).setCell (fun _ => rfl) _
 have HB107 : Hid (Blk w7 b10 63 RB) := Lib.hid (by
  have h := HB106.out.set 36 (.int .u64 s1)
  rw [HRS.out] at h
  rw [hw7.out]; exact h)
 have HB47 := Lib.hid (HB46.out.fr hF7 (Blk.ne_ HB46.out HB106.out (by decide)))
 have HBT7 := Lib.hid (HT6.out.2.1.fr hF7 (Blk.ne_ HT6.out.2.1 HB106.out (by decide)))
 have HBW7 := Lib.hid (HW6.out.2.1.fr hF7 (Blk.ne_ HW6.out.2.1 HB106.out (by decide)))
 have HK7 := Lib.hid (HK6.out.fr hF7 (fun j hj => by
  subst hj
  exact ⟨HG10.out, _, _, HB106.out, by decide, by decide, by decide⟩))
 have HGE : Hid (W.heap.size ≤ gt ∧ W.heap.size ≤ gw) := Lib.hid ⟨HT6.out.1, HW6.out.1⟩
 clear hw7 hF7 HB106 HB46 HT6 HW6 HK6
 go_wp2_with ((with_reducible refine atOp ⟨some 61, .load _ _, _, _, _, _⟩ ?_); refine wpList_load_any rfl _ rfl Tryz.underlying63 rfl (by rw [HZ1.out.1]; rfl) rfl HB107.out ?_)
 refine (HSA.out w7 bk HK7.out).mono ?_
 rintro e w8 ⟨rfl, hK8, hkp⟩
 rw [HSV.out.1, errD_0]
 rw [HSV.out.2.1] at hK8
 have HK8 := Lib.hid hK8
 have HB108 := Lib.hid (hkp _ _ _ HB107.out (by decide) (by decide) (by decide))
 have HB48 := Lib.hid (hkp _ _ _ HB47.out (by decide) (by decide) (by decide))
 have HT8 : Hid (Tm_l26 w8 W.heap.size gt (.slice none 0 0) [] a b d 9221120237041090561) := Lib.hid ⟨HGE.out.1, hkp _ _ _ HBT7.out (by decide) (by decide) (by decide), World.ownsRow_nil _ _ _ _, by decide⟩
 have HW8 : Hid (WinC w8 W.heap.size gw (.slice none 0 0) [] 0) := Lib.hid ⟨HGE.out.2, hkp _ _ _ HBW7.out (by decide) (by decide) (by decide), World.ownsRow_nil _ _ _ _, by decide, fun x hx => nomatch hx⟩
 clear hK8 hkp HK7 HB107 HB47 HBT7 HBW7
 go_upto_region 19 with fail
 have HPB := Lib.hid (pr_built HR1.out.1.len R1.blocks R1.epoch)
 have HCB := Lib.hid (fun gs => cl_built HR1.out.1.len bk gs key gw gt)
 rw [← HRBe.out, ← HSS.out] at HCB
 obtain ⟨PA, hPA⟩ := nm (u8s R1.root ++ [Value.int .u64 R1.blocks, .int .u64 R1.epoch]).toArray
 rw [← hPA] at HPB
 have HPA := Lib.hid hPA
 simp only [← hPA] at HCB
 clear hPA
 have HD8 : Hid (Blk w8.drew b10 63 RB ∧ Blk w8.drew b4 23 KA) := Lib.hid ⟨HB108.out, HB48.out⟩
 refine wp_region_mixH (fun w' => Blk w' b10 63 RB ∧ Blk w' b4 23 KA) [(true, 0), (true, 1), (true, 2), (true, 3), (true, 4), (true, 5), (true, 6), (true, 7), (true, 8), (true, 9), (true, 11), (true, 13), (true, 14), (true, 15), (true, 16), (false, 10), (false, 12), (true, 17), (false, 18), (true, 19)] (by kernel_rfl) (by kernel_rfl) HD8.out (fun hne => ?_)
 refine mix_take (o := ⟨_, _, _, _, _, _⟩) rfl (fun K hK => ?_)
 go_simp
 refine hK _ ?_
 clear hK K
 refine mix_take_row (cs := u8s R1.root) (o := ⟨_, _, _, _, _, _⟩) rfl rfl (.tmp 66) rfl rfl (fun w' h => (HRB.out _ _ h.1).root) Tryz.underlying60 rfl (by rw [u8s_len, HR1.out.1.len]; rfl) ?_
 have q0 : ∀ p : HW (fun w' => Blk w' b10 63 RB ∧ Blk w' b4 23 KA), p.w.cell? ⟨b10, 32, none⟩ = some (.int .u64 R1.blocks) := fun p => (HRB.out _ _ p.h.1).blocks
 have q1 : ∀ p : HW (fun w' => Blk w' b10 63 RB ∧ Blk w' b4 23 KA), p.w.cell? ⟨b10, 33, none⟩ = some (.int .u64 R1.epoch) := fun p => (HRB.out _ _ p.h.1).epoch
 have q2 : ∀ p : HW (fun w' => Blk w' b10 63 RB ∧ Blk w' b4 23 KA), p.w.cell? ⟨b10, 35, none⟩ = some (.int .u64 R1.limit) := fun p => (HRB.out _ _ p.h.1).limit
 iterate 4 (refine mix_take (o := ⟨_, _, _, _, _, _⟩) rfl (fun K hK => ?_); go_simp; refine hK _ ?_; clear hK K)
 refine mix_take_built (o := ⟨_, _, _, _, _, _⟩) rfl rfl 101 [(0, .tmp 67), (1, .tmp 69), (2, .tmp 71)] rfl [(0, .agg (secA R1.root)), (1, .int .u64 R1.blocks), (2, .int .u64 R1.epoch)] rfl PA HPB.out ?_
 refine mix_take (o := ⟨_, _, _, _, _, _⟩) rfl (fun K hK => ?_)
 go_simp
 refine hK _ ?_
 clear hK K
 refine mix_take_row (cs := RB.toList) (o := ⟨_, _, _, _, _, _⟩) rfl rfl (.tmp 10) rfl rfl (fun w' h => Blk.rangeOf h.1) Tryz.underlying63 rfl (by rw [Array.length_toList, HZ1.out.1]; rfl) ?_
 rw [Array.toArray_toList]
 iterate 2 (refine mix_take_row (cs := KA.toList) (o := ⟨_, _, _, _, _, _⟩) rfl rfl (.tmp 4) rfl rfl (fun w' h => Blk.rangeOf h.2) Tryz.underlying23 rfl (by rw [Array.length_toList, HKA.out.2]; rfl) ?_; rw [Array.toArray_toList])
 iterate 4 (refine mix_take (o := ⟨_, _, _, _, _, _⟩) rfl (fun K hK => ?_); go_simp; refine hK _ ?_; clear hK K)
 clear q0 q1 q2
 refine mix_act (o := ⟨_, _, _, _, _, _⟩) rfl (fun K hK => ?_) (.inl rfl)
 go_simp
 refine (HSN.out w8.drew (HL.out.new (HK8.out.nw.dr))).mono ?_
 rintro e w9 ⟨gs, rfl, hS, -, hN9⟩
 have HS9 := Lib.hid hS
 have HN9 : Hid (New w8 w9) := Lib.hid ((New.dr (New.refl w8)).tr hN9)
 have HD9 : Hid (Blk w9 b10 63 RB ∧ Blk w9 b4 23 KA) := Lib.hid ⟨hN9.blk HD8.out.1, hN9.blk HD8.out.2⟩
 clear hS hN9 HD8
 go_simp
 refine hK.out _ _ (fun _ => HD9.out) ?_
 clear hK K
 refine mix_act (o := ⟨_, _, _, _, _, _⟩) rfl (fun K hK => ?_) (.inl rfl)
 go_simp
 refine (HKO.out w9 (HL.out.new (HK8.out.nw.tr HN9.out))).mono ?_
 rintro e wa ⟨rfl, hNa⟩
 have HNa : Hid (New w8 wa) := Lib.hid (HN9.out.tr hNa)
 have HSa := Lib.hid (HS9.out.new hNa)
 have HDa : Hid (Blk wa b10 63 RB ∧ Blk wa b4 23 KA) := Lib.hid ⟨hNa.blk HD9.out.1, hNa.blk HD9.out.2⟩
 clear hNa HD9 HS9 HN9
 go_simp
 refine hK.out _ _ (fun _ => HDa.out) ?_
 clear hK K
 have HCg := Lib.hid (HCB.out gs)
 obtain ⟨CA, hCA⟩ := nm (cmNew R1 bk gs key gw gt).cells.toArray
 rw [← hCA] at HCg
 have HCA := Lib.hid hCA
 clear hCA HCB
 refine mix_take_built (o := ⟨_, _, _, _, _, _⟩) rfl rfl 109 [(0, .tmp 72), (1, .tmp 73), (2, .tmp 74), (3, .tmp 76), (4, .tmp 78), (5, .tmp 79), (6, .tmp 80), (7, .const (.int .i64 1)), (10, .tmp 82)] rfl [(0, .agg PA), (1, .pointer (some ⟨bk, 0, none⟩)), (2, .agg RB), (3, .pointer (some ⟨gs, 0, none⟩)), (4, .agg SA), (5, .pointer (some ⟨gw, 0, none⟩)), (6, .pointer (some ⟨gt, 0, none⟩)), (7, .int .i64 1), (10, .int .u64 R1.limit)] rfl CA HCg.out ?_
 refine mix_act (o := ⟨_, _, _, _, _, _⟩) rfl (fun K hK => ?_) (.inl rfl)
 go_simp
 obtain ⟨gc, hgc⟩ := nm wa.heap.size
 obtain ⟨wb, hwb⟩ := nm (wa.alloc (.cells CA 109))
 rw [← hwb, ← hgc]
 have hNb : New wa wb := by rw [hwb]; exact New.al (New.refl _) _
 refine hK.out _ _ (fun _ => ⟨hNb.blk HDa.out.1, hNb.blk HDa.out.2⟩) ?_
 clear hK K
 have HNb : Hid (New w8 wb) := Lib.hid (HNa.out.tr hNb)
 have HSb := Lib.hid (HSa.out.new hNb)
 have HCb : Hid (Blk wb gc 109 (cmNew R1 bk gs key gw gt).cells.toArray) := Lib.hid (by rw [← HCA.out, hwb, hgc]; exact Blk.new _ _ _)
 have HGC : Hid (W.heap.size ≤ gc) := Lib.hid (by rw [hgc]; exact (HK8.out.nw.tr HNa.out).size)
 have HTb := Lib.hid (HT8.out.new HNb.out)
 have HWb := Lib.hid (HW8.out.new HNb.out)
 have HKb := Lib.hid (HK8.out.new HNb.out)
 clear hwb hgc hNb HNa HSa HDa HT8 HW8 HK8 HCA HCg
 refine mix_take (o := ⟨_, _, _, _, _, _⟩) rfl (fun K hK => ?_)
 go_simp
 refine hK _ ?_
 clear hK K
 refine mix_done ?_
 go_wp2_with fail
 obtain ⟨r, hr⟩ := tickL_ex 9221120237041090561 a b HOPT.out.1 HOPT.out.2.1 HOPT.out.2.2.1
 refine (cchain_any (base := W.heap.size) (nx := 0) (c := cmNew R1 bk gs key gw gt) (F := []) (R := []) (L := []) wb HCb.out ⟨HR1.out.1.len, HR1.out.1.len, rfl, rfl⟩ (FrIn.nil _ _) (by decide) (HL.out.new HKb.out.nw) ⟨HL.out.lt.1, HL.out.lt.2, HGC.out⟩ HWb.out (by decide) HTb.out rfl hr HOPT.out.1 HOPT.out.2.2.1 (by decide) HR1.out.1.session HR1.out.1.epoch (by decide)).mono ?_
 rintro e wc ⟨rfl, v', vt', vw', hC, hv, hF, hT, hW, hfr⟩
 have HC := Lib.hid hC
 have HF := Lib.hid hF
 have HT := Lib.hid hT
 have HWw := Lib.hid hW
 have HKc : Hid (Kpr W wc gd bk (saveP p k R1).1 ⟨k.number + 1, R1, false⟩) := Lib.hid (HKb.out.fr hfr (fun j hj => by
  rcases hj with h | h | h | h | h | h
  · subst h; exact ⟨HGC.out, _, _, HCb.out, by decide, by decide, by decide⟩
  · cases h
  · rw [h]; exact ⟨HTb.out.1, _, _, HTb.out.2.1, by decide, by decide, by decide⟩
  · cases h
  · rw [h]; exact ⟨HWb.out.1, _, _, HWb.out.2.1, by decide, by decide, by decide⟩
  · cases h))
 have HSc : Hid (Slr wc gs key) := Lib.hid (HSb.out.fr hfr (fun j hj => by
  rcases hj with h | h | h | h | h | h
  · subst h; exact ⟨_, _, HCb.out, by decide, by decide⟩
  · cases h
  · rw [h]; exact ⟨_, _, HTb.out.2.1, by decide, by decide⟩
  · cases h
  · rw [h]; exact ⟨_, _, HWb.out.2.1, by decide, by decide⟩
  · cases h))
 clear hC hF hT hW hfr
 go_wp2_with fail
 go_ret2
 exact ⟨gc, bk, gs, gw, gt, v', vt', vw', r, _, rfl, HC.out, hv, HF.out, HT.out, HWw.out, HSc.out, HGC.out, HKc.out, HSV.out.2.2.1, HSV.out.2.2.2⟩
end Go.Proofs.YtmibndkofoldkaaGreatDoor
namespace Go.Proofs.YtmibndkofoldkaaGreatDoor
set_option linter.unusedVariables false
set_option linter.unusedSimpArgs false
set_option linter.constructorNameAsVariable false
open Go.RowKit Go.Sort Go.Maps
set_option maxHeartbeats 4000000
set_option maxRecDepth 100000
def noErr (n : Int) : Value := .iface 55 (.int .i64 n)
theorem cdo_nil (x : Array Value) (w : World) : Calls Tryz.prog 13 #[.pointer none, .agg x] w fun e w' => e = .returned (.tuple #[.int .u64 0, noErr 11]) ∧ New w w' := by
 unfold noErr
 go_enter Tryz.func13, Tryz.ntmps13
 go_wp2_with fail
 go_ret2
 exact ⟨rfl, New.al (New.refl _) _⟩
theorem ctick_nil (n : Int) (w : World) : Calls Tryz.prog 18 #[.pointer none, .int .i64 n] w fun e w' => e = .returned (.tuple #[]) ∧ New w w' := by
 go_enter Tryz.func18, Tryz.ntmps18
 go_wp2_with fail
 exact bodyPost_ret (results_none rfl _ _ _) rfl ⟨rfl, New.refl _⟩
theorem cframe_nil (b : Value) (w : World) : Calls Tryz.prog 20 #[.pointer none, b] w fun e w' => e = .returned (noErr 11) ∧ New w w' := by
 unfold noErr
 go_enter Tryz.func20, Tryz.ntmps20
 go_wp2_with fail
 go_ret
 exact ⟨rfl, New.refl _⟩
theorem cclose_nil (w : World) : Calls Tryz.prog 21 #[.pointer none] w fun e w' => e = .returned (noErr 11) ∧ New w w' := by
 unfold noErr
 go_enter Tryz.func21, Tryz.ntmps21
 go_wp2_with fail
 go_ret
 exact ⟨rfl, New.refl _⟩
theorem cframes_nil (w : World) : Calls Tryz.prog 10 #[.pointer none] w fun e w' => e = .returned (.slice none 0 0) ∧ New w w' := by
 skip
 go_enter Tryz.func10, Tryz.ntmps10
 go_wp2_with fail
 go_ret
 exact ⟨rfl, New.refl _⟩
theorem coutc_nil (w : World) : Calls Tryz.prog 16 #[.pointer none] w fun e w' => e = .returned (.slice none 0 0) ∧ New w w' := by
 skip
 go_enter Tryz.func16, Tryz.ntmps16
 go_wp2_with fail
 go_ret
 exact ⟨rfl, New.refl _⟩
theorem cstate_nil (w : World) : Calls Tryz.prog 17 #[.pointer none] w fun e w' => e = .returned (.int .i64 0) ∧ New w w' := by
 skip
 go_enter Tryz.func17, Tryz.ntmps17
 go_wp2_with fail
 go_ret
 exact ⟨rfl, New.refl _⟩
theorem cwait_nil (w : World) : Calls Tryz.prog 15 #[.pointer none] w fun e w' => e = .returned (.int .i64 0) ∧ New w w' := by
 skip
 go_enter Tryz.func15, Tryz.ntmps15
 go_wp2_with fail
 go_ret
 exact ⟨rfl, New.refl _⟩
theorem cblocks_nil (w : World) : Calls Tryz.prog 22 #[.pointer none] w fun e w' => e = .returned (.int .u64 0) ∧ New w w' := by
 skip
 go_enter Tryz.func22, Tryz.ntmps22
 go_wp2_with fail
 go_ret
 exact ⟨rfl, New.refl _⟩
theorem cepoch_nil (w : World) : Calls Tryz.prog 23 #[.pointer none] w fun e w' => e = .returned (.int .u64 0) ∧ New w w' := by
 skip
 go_enter Tryz.func23, Tryz.ntmps23
 go_wp2_with fail
 go_ret
 exact ⟨rfl, New.refl _⟩
theorem cses_nil (w : World) : Calls Tryz.prog 24 #[.pointer none] w fun e w' => e = .returned (.int .u64 0) ∧ New w w' := by
 skip
 go_enter Tryz.func24, Tryz.ntmps24
 go_wp2_with fail
 go_ret
 exact ⟨rfl, New.refl _⟩
theorem hash_zero : Tryz.prog.built 60 [] = some (secA (List.replicate 32 0)) := by kernel_rfl
theorem croot_nil (w : World) : Calls Tryz.prog 25 #[.pointer none] w fun e w' => e = .returned (.agg (secA (List.replicate 32 0))) ∧ New w w' := by
 obtain ⟨ZA, hZA⟩ := nm (secA (List.replicate 32 0))
 have HZ : Hid (Tryz.prog.built 60 [] = some ZA ∧ ZA.size = 32 ∧ ZA.all (·.oneCell') = true) := Lib.hid ⟨by rw [hZA]; exact hash_zero, by rw [hZA]; rfl, by rw [hZA]; exact secA_one _⟩
 rw [← hZA]
 clear hZA
 go_enter Tryz.func25, Tryz.ntmps25
 go_upto_region 1 with ((with_reducible refine atOp ⟨some 2, .alloc _, _, _, _, _⟩ ?_); refine wpList_alloc_row rfl rfl hashInfoR ?_; intro b2 w1 hb hB hN; have HB2 := Lib.hid hB; have HN1 := Lib.hid hN; have HZ2 := Lib.hid hb; clear hb hB hN)
 go_wp2_with (first
  | ((with_reducible refine atOp ⟨none, .store 60 (.tmp 2) _, _, _, _, _⟩ ?_); refine wpList_store_any rfl (.tmp 2) (.tmp 5) rfl (by rw [HZ.out.2.1]; rfl) rfl rfl HB2.out (by rw [HZ.out.2.1]; rfl) HZ.out.2.2 ?_; intro w8 hb8 hf8; have HB8 := Lib.hid hb8; have HF8 := Lib.hid hf8; clear hb8 hf8)
  | ((with_reducible refine atOp ⟨some 5, .build _ _, _, _, _, _⟩ ?_); refine wpList_built rfl 60 [] rfl [] rfl ZA HZ.out.1 ?_))
 exact bodyPost_ret (v := .agg ZA) (results_rowA rfl _ _ b2 _ _ rfl HB8.out Tryz.underlying60 rfl (by rw [HZ.out.2.1]; rfl)) rfl ⟨rfl, HN1.out.fr HF8.out (fun k hk => by have := HZ2.out; omega)⟩
theorem rc_zero : Tryz.prog.built 63 [] = some rc0.cells := by kernel_rfl
theorem crec_nil (w : World) : Calls Tryz.prog 26 #[.pointer none] w fun e w' => e = .returned (.agg rc0.cells) ∧ New w w' := by
 obtain ⟨ZA, hZA⟩ := nm rc0.cells
 have HZ : Hid (Tryz.prog.built 63 [] = some ZA ∧ ZA.size = 37 ∧ ZA.all (·.oneCell') = true) := Lib.hid ⟨by rw [hZA]; exact rc_zero, by rw [hZA]; rfl, by rw [hZA]; exact Rc.one _⟩
 have HI := Lib.hid rc37Info
 rw [← hZA] at HI ⊢
 clear hZA
 go_enter Tryz.func26, Tryz.ntmps26
 go_upto_region 1 with ((with_reducible refine atOp ⟨some 2, .alloc _, _, _, _, _⟩ ?_); refine wpList_alloc_row rfl rfl HI.out ?_; intro b2 w1 hb hB hN; have HB2 := Lib.hid hB; have HN1 := Lib.hid hN; have HZ2 := Lib.hid hb; clear hb hB hN)
 go_wp2_with (first
  | ((with_reducible refine atOp ⟨none, .store 63 (.tmp 2) _, _, _, _, _⟩ ?_); refine wpList_store_any rfl (.tmp 2) (.tmp 5) rfl (by rw [HZ.out.2.1]; rfl) rfl rfl HB2.out rfl HZ.out.2.2 ?_; intro w8 hb8 hf8; have HB8 := Lib.hid hb8; have HF8 := Lib.hid hf8; clear hb8 hf8)
  | ((with_reducible refine atOp ⟨some 5, .build _ _, _, _, _, _⟩ ?_); refine wpList_built rfl 63 [] rfl [] rfl ZA HZ.out.1 ?_))
 exact bodyPost_ret (v := .agg ZA) (results_rowA rfl _ _ b2 _ _ rfl HB8.out Tryz.underlying63 rfl (by rw [HZ.out.2.1]; rfl)) rfl ⟨rfl, HN1.out.fr HF8.out (fun k hk => by have := HZ2.out; omega)⟩
theorem cstate_cl {gc : Nat} {c : Cm} (w : World) (hc : Blk w gc 109 c.cells.toArray) (ho : c.Ok) : Calls Tryz.prog 17 #[.pointer (some ⟨gc, 0, none⟩)] w fun e w' => e = .returned (.int .i64 c.state) ∧ w' = w := by
 have c0 : w.cell? ⟨gc, 187, none⟩ = some (.int .i64 c.state) := (ClAt.of ho hc).tl 2 _ rfl
 clear hc
 go_enter Tryz.func17, Tryz.ntmps17
 go_wp2_with fail
 go_ret
 exact ⟨rfl, rfl⟩
theorem cblocks_cl {gc : Nat} {c : Cm} (w : World) (hc : Blk w gc 109 c.cells.toArray) (ho : c.Ok) : Calls Tryz.prog 22 #[.pointer (some ⟨gc, 0, none⟩)] w fun e w' => e = .returned (.int .u64 c.blocks) ∧ w' = w := by
 have c0 := (ClAt.of ho hc).blocks
 clear hc
 go_enter Tryz.func22, Tryz.ntmps22
 go_wp2_with fail
 go_ret
 exact ⟨rfl, rfl⟩
theorem cepoch_cl {gc : Nat} {c : Cm} (w : World) (hc : Blk w gc 109 c.cells.toArray) (ho : c.Ok) : Calls Tryz.prog 23 #[.pointer (some ⟨gc, 0, none⟩)] w fun e w' => e = .returned (.int .u64 c.epoch) ∧ w' = w := by
 have c0 := (ClAt.of ho hc).epoch
 clear hc
 go_enter Tryz.func23, Tryz.ntmps23
 go_wp2_with fail
 go_ret
 exact ⟨rfl, rfl⟩
theorem cses_cl {gc : Nat} {c : Cm} (w : World) (hc : Blk w gc 109 c.cells.toArray) (ho : c.Ok) : Calls Tryz.prog 24 #[.pointer (some ⟨gc, 0, none⟩)] w fun e w' => e = .returned (.int .u64 c.sv.session) ∧ w' = w := by
 have c0 := (ClAt.of ho hc).ses
 clear hc
 go_enter Tryz.func24, Tryz.ntmps24
 go_wp2_with fail
 go_ret
 exact ⟨rfl, rfl⟩
theorem cframes_cl {gc : Nat} {c : Cm} {A : Option Addr} {n d : Nat} (w : World) (hc : Blk w gc 109 c.cells.toArray) (ho : c.Ok) (hf : c.fr = .slice A n d) : Calls Tryz.prog 10 #[.pointer (some ⟨gc, 0, none⟩)] w fun e w' => e = .returned (.slice A n d) ∧ Blk w' gc 109 (Cm.cells { c with fr := .slice none 0 0 }).toArray ∧ Fr (fun k => k = gc) w w' := by
 have c0 : w.cell? ⟨gc, 192, none⟩ = some (.slice A n d) := by
  have h := (ClAt.of ho hc).tl 7 c.fr rfl
  rw [hf] at h
  exact h
 have f0 : w.frozen? ⟨gc, 192, none⟩ = false := hc.frozen 192
 have HS : Hid (Blk (w.setCell ⟨gc, 192, none⟩ (.slice none 0 0)) gc 109 (Cm.cells { c with fr := .slice none 0 0 }).toArray) := Lib.hid (by
  have h := hc.set 192 (.slice none 0 0)
  rwa [Cm.set_fr ho] at h)
 clear hc hf
 go_enter Tryz.func10, Tryz.ntmps10
 go_wp2_with fail
 go_ret
 exact ⟨rfl, HS.out, (Fr.refl (fun k => k = gc) w).setCell (fun _ => rfl) _⟩
end Go.Proofs.YtmibndkofoldkaaGreatDoor
