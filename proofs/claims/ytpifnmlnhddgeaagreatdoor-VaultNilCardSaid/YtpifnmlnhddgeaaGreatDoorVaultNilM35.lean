/- Texts of one proof, one behind the other: SwG, LkM, SwH, VaA, VaQ, VaF, VaO, VaM, VaE, VaG. No condition but each one's own. -/
import Derived.Test.YtpifnmlnhddgeaaGreatDoorVaultNilM33
import Derived.Test.YtpifnmlnhddgeaaGreatDoorVaultNilM34
import Derived.Laws.FloatArith
import Derived.Test.YtpifnmlnhddgeaaGreatDoorVaultNilM30
import Derived.Test.YtpifnmlnhddgeaaGreatDoorVaultNilM25
import Derived.Test.YtpifnmlnhddgeaaGreatDoorVaultNilM5
import Derived.Test.YtpifnmlnhddgeaaGreatDoorVaultNilM26
import Derived.Test.YtpifnmlnhddgeaaGreatDoorVaultNilM3
import Derived.Test.YtpifnmlnhddgeaaGreatDoorVaultNilM2
import Derived.Test.YtpifnmlnhddgeaaGreatDoorVaultNilM6
import Derived.Test.YtpifnmlnhddgeaaGreatDoorVaultNilM8
import Derived.Test.YtpifnmlnhddgeaaGreatDoorVaultNilM10
import Derived.Test.YtpifnmlnhddgeaaGreatDoorVaultNilM17
import Derived.Test.YtpifnmlnhddgeaaGreatDoorVaultNilM16
import Derived.Test.YtpifnmlnhddgeaaGreatDoorVaultNilM12
import Derived.Test.YtpifnmlnhddgeaaGreatDoorVaultNilM4
import Derived.Test.YtpifnmlnhddgeaaGreatDoorVaultNilM14
namespace Go.Proofs.YtpifnmlnhddgeaaGreatDoor
set_option linter.unusedVariables false
set_option linter.unusedSimpArgs false
set_option linter.constructorNameAsVariable false
open Go.RowKit Go.Sort Go.Maps
section
variable {W w w' : World} {gs gd bs bf bt mm : Nat} {s : SW}
theorem table_any (h : StIn W w gs gd bs bf bt s mm) (hN : New W w) : Calls Tryz.prog 56 #[.pointer (some ⟨gs, 0, none⟩)] w fun e w' => (∃ X' m' E' g' b', e = .returned (.pointer (some ⟨g', 0, none⟩)) ∧ TbIn X' w' W.heap.size g' b' m' E' ∧ cont E' = s.t ∧ m' ≤ mm ∧ E'.length ≤ mm ∧ w.heap.size ≤ g' ∧ w.heap.size ≤ b') ∧ New w w' := by
 obtain ⟨gl, gt, v, X, m, E, h⟩ := h
 have c2 := h.c2
 have HC := Lib.hid (copy_any_l19 h.tb hN.size)
 have HE := Lib.hid (And.intro h.ct h.mm)
 clear h hN
 go_enter Tryz.func56, Tryz.ntmps56
 go_wp2_with fail
 refine HC.out.mono ?_
 rintro e w1 ⟨g', b', rfl, hT, hN, h1, h2⟩
 go_wp2_with fail
 go_ret
 exact ⟨⟨X, m, E, g', b', rfl, hT, HE.out.1, HE.out.2.1, HE.out.2.2, h1, h2⟩, hN⟩
theorem sget_any (h : StIn W w gs gd bs bf bt s mm) {q : Nat → Prop} (A : Option Addr) (n c : Nat) (xs : List Int) (hR : Rd q w 1 A n (u8s xs)) (hb : Byt xs) (hn : n ≤ 1000000) : Calls Tryz.prog 51 #[.pointer (some ⟨gs, 0, none⟩), .slice A n c] w fun e w' => (∃ E : Tab, cont E = s.t ∧ ∃ A' c', e = .returned (.tuple #[.slice A' (tval E xs).n c', .bool (E.lookup xs).isSome]) ∧ w'.ownsRow w.heap.size 5 1 (.slice A' (tval E xs).n c') (tval E xs).n (u8s (tval E xs).xs)) ∧ New w w' := by
 obtain ⟨gl, gt, v, X, m, E, h⟩ := h
 have c2 := h.c2
 have HG := Lib.hid (get_any_l19 h.tb A n c xs hR hb hn)
 have HE := Lib.hid h.ct
 clear h hR hb hn
 go_enter Tryz.func51, Tryz.ntmps51
 go_wp2_with fail
 refine HG.out.mono ?_
 rintro e w1 ⟨A', c', rfl, hO, hN⟩
 go_wp2_with fail
 go_ret2
 exact ⟨⟨E, HE.out, A', c', rfl, hO⟩, hN⟩
set_option maxHeartbeats 4000000
set_option maxRecDepth 100000
end
end Go.Proofs.YtpifnmlnhddgeaaGreatDoor
namespace Go.Proofs.YtpifnmlnhddgeaaGreatDoor
set_option linter.unusedVariables false
set_option linter.unusedSimpArgs false
set_option linter.constructorNameAsVariable false
open Go.RowKit Go.Sort Go.Maps
def Dkl (W w : World) (gd : Nat) (p : DP) : Prop := ∃ bs bf v, Dk w W.heap.size gd bs bf v p ∧ New W w
section
variable {W w w' : World} {gd gl : Nat} {p : DP} {l : LG}
theorem dnew_l (hN : New W w) (n : Nat) (h1 : 1 ≤ n) (h2 : n ≤ 16384) : Calls Tryz.prog 10 #[.int .i64 n] w fun e w' => ∃ g, e = .returned (.tuple #[.pointer (some ⟨g, 0, none⟩), .nilIface]) ∧ Dkl W w' g (DP.new n) ∧ New w w' :=
 (new_ok n w W.heap.size hN.size h1 h2).mono fun e w' ⟨he, hD, hN'⟩ => ⟨_, he, ⟨_, _, _, hD, hN.tr hN'⟩, hN'⟩
end
end Go.Proofs.YtpifnmlnhddgeaaGreatDoor
namespace Go.Proofs.YtpifnmlnhddgeaaGreatDoor
set_option linter.unusedVariables false
set_option linter.unusedSimpArgs false
set_option linter.constructorNameAsVariable false
open Go.RowKit Go.Sort Go.Maps
theorem runs_len {p : DP} (hp : p.Ok) (l : LG) : ∀ k, (runs p l k).2.length + l.used ≤ (runs p l k).1.used
 | 0 => by show 0 + l.used ≤ l.used; omega
 | k + 1 => by
  have ih := runs_len hp l k
  cases hn : nextL p (runs p l k).1 with
  | none => rw [runs_none hn 1]; exact ih
  | some b =>
   have := step_used hp hn
   rw [runs_some hn]
   simp only [List.length_append, List.length_singleton]
   omega
theorem runL_len {p : DP} (hp : p.Ok) {n g : Nat} (h : 4 ≤ n) (hz : p.size = n) (hg : g < 4294967296) : (runL p (log0 n g)).2.length ≤ hlf n := by
 have h1 := runs_len hp (log0 n g) ((log0 n g).size + 1)
 have h2 := runs_ok hp (l := log0 n g) (n := n) (lg0_ok (hlf_fit (g := g) h).2.1 hg) ((log0 n g).size + 1)
 have h3 := h2.1.used
 rw [h2.2.1] at h3
 have h4 : (log0 n g).used = 0 := rfl
 have h5 : (log0 n g).size = hlf n := rfl
 show (runs p (log0 n g) _).2.length ≤ _
 omega
structure Sto (W w : World) (gs gd bs bf bt : Nat) (s : SW) (K : List (List Int)) (mm : Nat) : Prop where
 st : StIn W w gs gd bs bf bt s mm
 ok : SOk s K
 nw : New W w
section
variable {W w w' : World} {gs gd bs bf bt mm : Nat} {s : SW} {K : List (List Int)} {v : Value} {p : DP}
theorem Sto.new (h : Sto W w gs gd bs bf bt s K mm) (hN : New w w') : Sto W w' gs gd bs bf bt s K mm := ⟨h.st.new hN, h.ok, h.nw.tr hN⟩
theorem fmt_l (hD : Dk w W.heap.size gd bs bf v p) (hN : New W w) (hL : ShaIn 1 0 W) (hu : Up p) (h4 : 4 ≤ p.size) :
    Calls Tryz.prog 47 #[.pointer (some ⟨gd, 0, none⟩)] w fun e w' => e = .returned .nilIface ∧ (∃ v', Dk w' W.heap.size gd bs bf v' (fmtS p)) ∧ Kps (Mps bs bf bs) W w w' :=
 (format_any hD hN hL hu h4).mono fun e w' ⟨he, v', hT⟩ => ⟨he, ⟨v', hT.dk⟩, Kps.of hT.fr (dk_cls hD (.inl rfl) (.inr (.inl rfl)))⟩
theorem open_s (hD : Dk w W.heap.size gd bs bf v p) (hN : New W w) (hL : ShaIn 1 0 W) (hu : Up p) (h4 : 4 ≤ p.size) (hz : p.size ≤ 3000) (ho : opnS p = (s.p, 0, some s)) (hs : SOk s K) :
    Calls Tryz.prog 48 #[.pointer (some ⟨gd, 0, none⟩)] w fun e w' => ∃ gs bt, e = .returned (.tuple #[.pointer (some ⟨gs, 0, none⟩), .nilIface]) ∧ Sto W w' gs gd bs bf bt s K (600 * hlf p.size) ∧ w.heap.size ≤ gs ∧ w.heap.size ≤ bt ∧ Kps (Mps bs bf bs) W w w' := by
 have hr : (runL p (log0 p.size (cnt p))).2.length ≤ hlf p.size := runL_len hD.ok h4 rfl (by rw [← cntN_2]; exact cntN_lt hD.ok 2)
 have hh : hlf p.size ≤ 1600 := by unfold hlf; omega
 refine (sopen_any hD hN hL hu h4 (by omega)).mono fun e w' h => ?_
 unfold OpSays at h
 rw [ho] at h
 obtain ⟨gs, bt, he, hst, h1, h2, hK⟩ := h
 exact ⟨gs, bt, he, ⟨hst.up (Nat.mul_le_mul_left _ hr), hs, hK.nw hN⟩, h1, h2, hK⟩
end
theorem opn_up {p : DP} {s : SW} (hu : Up p) (hok : p.Ok) (h4 : 4 ≤ p.size) (h : opnS p = (s.p, 0, some s)) : Up s.p := by
 unfold opnS at h
 have hg : cnt p < 4294967296 := by rw [← cntN_2]; exact cntN_lt hok 2
 have hr := (runs_ok hok (l := log0 p.size (cnt p)) (lg0_ok (hlf_fit h4).2.1 hg) ((log0 p.size (cnt p)).size + 1)).1
 have hw := (hu.wipe (l := (runL p (log0 p.size (cnt p))).1) hr.fit hr.used).2.1
 rw [if_neg (by omega)] at h
 split at h
 · simp at h
 · simp only at h
   split at h
   · injection h with h1 h2
     rw [← h1]
     exact hw
   · simp at h
section
variable {p : DP} {l : LG}
theorem Up.writeN (h : Up p) (b : List Int) (hf : l.first + l.size ≤ p.size) : ∀ k, l.used + k ≤ l.size → (writeN p l b k).2 = 0 ∧ Up (writeN p l b k).1 ∧ (writeN p l b k).1.size = p.size
 | 0, _ => ⟨rfl, h, rfl⟩
 | k + 1, hk => by
  obtain ⟨h1, h2, h3⟩ := h.writeN b hf k (by omega)
  rw [writeN_go h1]
  exact ⟨h2.wcode (by omega) (by rw [h3]; omega), h2.write _ _, (DP.doWrite_size _ _ _).trans h3⟩
end
end Go.Proofs.YtpifnmlnhddgeaaGreatDoor
namespace Go.Proofs.YtpifnmlnhddgeaaGreatDoor
set_option linter.unusedVariables false
set_option linter.unusedSimpArgs false
set_option linter.constructorNameAsVariable false
open Go.RowKit Go.Sort Go.Maps
structure NewCh (w w' : World) (x : Ch) : Prop where
 k : w'.ownsRow w.heap.size 5 1 (.slice x.k.A x.k.n x.k.c) x.k.n (u8s x.k.xs)
 kb : Byt x.k.xs
 v : w'.ownsRow w.heap.size 5 1 (.slice x.v.A x.v.n x.v.c) x.v.n (u8s x.v.xs)
 vb : Byt x.v.xs
theorem NewCh.new {w w' w'' : World} {x : Ch} (h : NewCh w w' x) (hN : New w' w'') : NewCh w w'' x := ⟨hN.own h.k, h.kb, hN.own h.v, h.vb⟩
theorem NewCh.inT {w w' : World} {x : Ch} (h : NewCh w w' x) : x.InT w' := ⟨RdT.own h.k rfl, h.kb, RdT.own h.v rfl, h.vb⟩
theorem metaB_len (a b c : Nat) : (metaB a b c).length = 24 := by simp [metaB, beL_len]
theorem metaB_byt (a b c : Nat) : Byt (metaB a b c) := by
 intro y hy
 simp only [metaB, List.mem_append] at hy
 rcases hy with (hy | hy) | hy
 · exact beL_byt _ _ y hy
 · exact beL_byt _ _ y hy
 · exact beL_byt _ _ y hy
set_option maxHeartbeats 4000000
set_option maxRecDepth 100000
theorem meta_any (a b c : Nat) (w : World) (ha : a < 18446744073709551616) (hb : b < 18446744073709551616) (hc : c < 18446744073709551616) :
    Calls Tryz.prog 50 #[.int .u64 a, .int .u64 b, .int .u64 c] w fun e w' => (∃ x : Ch, e = .returned (.agg x.cells.toArray) ∧ pcOf x = ⟨kM, metaB a b c, false⟩ ∧ NewCh w w' x ∧ x.k.n = 1 ∧ x.v.n = 24) ∧ New w w' := by
 have HAB : Hid (a < 256 ^ 8 ∧ b < 256 ^ 8 ∧ c < 256 ^ 8) := Lib.hid ⟨ha, hb, hc⟩
 clear ha hb hc
 go_enter Tryz.func50, Tryz.ntmps50
 go_upto_region 2 with fail
 obtain ⟨w1, hw1⟩ := nm ((w.alloc (.cells #[.slice none 0 0, .slice none 0 0, .bool false] 124)).alloc (.cells #[.nilIface, .slice none 0 0] 255))
 obtain ⟨b6, hb6⟩ := nm w.heap.size
 obtain ⟨g, hg⟩ := nm (w.heap.size + 1)
 have HN1 : Hid (New w w1) := Lib.hid (by rw [hw1]; exact New.al (New.al (New.refl _) _) _)
 have HB6 : Hid (Blk w1 b6 124 #[.slice none 0 0, .slice none 0 0, .bool false]) := Lib.hid (by rw [hw1, hb6]; exact (Blk.new _ _ _).alloc _)
 have HW1 : Hid (WrIn w1 g g []) := Lib.hid ⟨⟨none, 0, by rw [hw1, hg]; exact Blk.new' _ _ _ (by simp), World.ownsRow_nil _ _ _ _⟩, Nat.le_refl _, fun x hx => nomatch hx⟩
 have HZ : Hid (b6 = w.heap.size ∧ g = w.heap.size + 1) := Lib.hid ⟨hb6, hg⟩
 rw [← hw1, ← hg, ← hb6]
 clear hw1 hb6 hg
 go_wp2_with fail
 refine (wnum_any HW1.out a 8 (by omega) HAB.out.1 (by simp)).mono ?_
 rintro e wa ⟨rfl, hW, hF⟩
 have HWa := Lib.hid hW
 have HFa := Lib.hid hF
 clear hW hF
 go_wp2_with fail
 refine (wnum_any HWa.out b 8 (by omega) HAB.out.2.1 (by simp [beL_len])).mono ?_
 rintro e wb ⟨rfl, hW, hF⟩
 have HWb := Lib.hid hW
 have HFb : Hid (FW g g w1 wb) := Lib.hid (HFa.out.tr hF)
 clear hW hF
 go_wp2_with fail
 refine (wnum_any HWb.out c 8 (by omega) HAB.out.2.2 (by simp [beL_len])).mono ?_
 rintro e wc ⟨rfl, hW, hF⟩
 have hW : WrIn wc g g (metaB a b c) := hW
 have HWc := Lib.hid hW
 have HFc : Hid (FW g g w1 wc) := Lib.hid (HFb.out.tr hF)
 have HBc : Hid (Blk wc b6 124 #[.slice none 0 0, .slice none 0 0, .bool false]) := Lib.hid (HFc.out.blk HB6.out (by decide) (by have := HZ.out; omega))
 have HNc : Hid (New w wc) := Lib.hid (HFc.out.toNew HN1.out (by have := HZ.out; omega) (Nat.le_refl _))
 clear hW hF HWa HWb HFa HFb HB6
 go_wp2_with fail
 refine (wdone_any HWc.out (by rw [metaB_len]; omega)).mono ?_
 rintro e w6 ⟨⟨B, d, rfl, hO⟩, hN6⟩
 rw [metaB_len] at hO ⊢
 have HO : Hid (w6.ownsRow w.heap.size 5 1 (.slice B 24 d) 24 (u8s (metaB a b c))) := Lib.hid (own_base hO fun k hk => by
  have h1 := (own_lt hO k hk).1
  have h2 := HNc.out.size
  omega)
 have HN6 : Hid (New w w6) := Lib.hid (HNc.out.tr hN6)
 have HB66 : Hid (Blk w6 b6 124 #[.slice none 0 0, .slice none 0 0, .bool false]) := Lib.hid (hN6.blk HBc.out)
 clear hO hN6 HBc HNc
 go_upto_region 5 with fail
 have HB67 : Hid (Blk (w6.alloc (.cells #[.int .u8 77] 5)) b6 124 #[.slice none 0 0, .slice none 0 0, .bool false]) := Lib.hid (HB66.out.alloc _)
 go_wp2_with ((with_reducible refine atOp ⟨none, .store 124 (.tmp 6) _, _, _, _, _⟩ ?_); refine wpList_store_any rfl (.tmp 6) (.tmp 28) rfl (by rfl) rfl rfl HB67.out rfl (by simp [Value.oneCell']) ?_; intro w7 hb7 hf7; have HB7 := Lib.hid hb7; have HF7 := Lib.hid hf7; clear hb7 hf7)
 have HX : Hid (NewCh w w7 ⟨⟨some ⟨w6.heap.size, 0, none⟩, 1, 1, [77]⟩, ⟨B, 24, d, metaB a b c⟩, false⟩) := Lib.hid (by
  have hz := HZ.out
  have h6 := HB66.out.lt
  have hs := HN6.out.size
  have hne : ∀ k, (Value.slice B 24 d).ownBlock = some k → ¬ k = b6 := fun k hk e => own_ne HO.out HB66.out (by decide) (hk.trans (congrArg some e))
  have hb7 : Blk w7 w6.heap.size 5 #[.int .u8 77] := (Blk.new _ _ _).fr HF7.out (by omega)
  exact ⟨own_one hb7 rfl hs, (by intro x hx; simp at hx; omega), own_fr (New.own ((New.refl w6).al _) HO.out) HF7.out hne, metaB_byt _ _ _⟩)
 have HN7 : Hid (New w w7) := Lib.hid ((HN6.out.al _).fr HF7.out (fun k hk => by have := HZ.out; omega))
 exact bodyPost_ret (v := .agg #[.slice (some ⟨w6.heap.size, 0, none⟩) 1 1, .slice B 24 d, .bool false]) (results_rowH rfl _ _ b6 _ _ rfl HB7.out Tryz.underlying124 rfl (by rfl)) rfl ⟨⟨_, rfl, rfl, HX.out, rfl, rfl⟩, HN7.out⟩
end Go.Proofs.YtpifnmlnhddgeaaGreatDoor
namespace Go.Proofs.YtpifnmlnhddgeaaGreatDoor
set_option linter.unusedVariables false
set_option linter.unusedSimpArgs false
set_option linter.constructorNameAsVariable false
open Go.RowKit Go.Sort
theorem sync_cut {p : DP} (hu : Up p) (keep : List Bool) : p.doSync.cut keep = p.doSync := by
 have e : p.doSync = p.sync := by unfold DP.doSync; rw [hu.down]; rfl
 refine cut_self ?_ ?_ hu.sync keep
 · rw [e]; rfl
 · rw [e]; rfl
theorem commit_up {s : SW} {K : List (List Int)} {L : List PC} (h : SOk s K) (hu : Up s.p) (hb : s.broken = false) (hg : s.gen + 1 < 4294967296) (hL : pcsOk L = true) (hB : ∀ c ∈ L, PcB c) (hlen : (putP L).length ≤ 65536) (hroom : s.l.used + secN (putP L).length ≤ s.l.size) :
    ∃ K', SOk (cmtS s L).1 K' ∧ (cmtS s L).2 = 0 ∧ (cmtS s L).1.t = doPs s.t L ∧ (cmtS s L).1.p.size = s.p.size ∧ Up (cmtS s L).1.p ∧ (∀ keep, (cmtS s L).1.p.cut keep = (cmtS s L).1.p) ∧ (cmtS s L).1.broken = false ∧ (cmtS s L).1.l = s.l.step (putP L) ∧ (cmtS s L).1.gen = s.gen := by
 have hpos : 1 ≤ (putP L).length := by unfold putP; simp [beL_len]; omega
 have hn0 : secN (putP L).length ≠ 0 := by rw [secN_in hpos hlen]; omega
 have hlb := h.lb hb
 have hfit : s.l.first + s.l.size ≤ s.p.size := by
  have hl := h.log
  rw [hl]
  have := hlf_fit (g := s.gen) h.n4
  obtain ⟨c1, c2, -⟩ := chain_same (log0 s.p.size s.gen) K
  show (chain (log0 s.p.size s.gen) K).first + (chain (log0 s.p.size s.gen) K).size ≤ _
  rw [c1, c2]
  exact this.2.1
 have hw := hu.writeN (l := s.l) (putP L) hfit (secN (putP L).length) (by omega)
 have ha : appL s.p s.l (putP L) = ((writeN s.p s.l (putP L) (secN (putP L).length)).1, s.l.step (putP L), 0) := by
  unfold appL
  rw [if_neg hn0, if_neg (by rw [hlb]; decide), if_neg (by omega)]
  simp only
  rw [if_neg (by rw [hw.1]; simp)]
 obtain ⟨q, hq⟩ : ∃ q, q = (writeN s.p s.l (putP L) (secN (putP L).length)).1 := ⟨_, rfl⟩
 rw [← hq] at ha hw
 have hadd : addS s (putP L) = ({ s with p := q, l := s.l.step (putP L) }, 0) := by
  unfold addS
  rw [ha, if_pos (show (0 : Int) ≠ 8 by decide)]
 have hc : cmtS s L = ({ s with p := q.doSync, l := s.l.step (putP L), t := doPs s.t L }, 0) := by
  unfold cmtS
  rw [if_neg (by rw [hL]; decide), if_neg (by rw [hb]; decide), if_neg (by omega)]
  simp only
  rw [hadd, if_neg (show ¬ (0 : Int) ≠ 0 by decide)]
  simp only
  rw [if_neg (by rw [hw.2.1.scode]; decide)]
 obtain ⟨K', k1, k2, -, k3⟩ := h.commit hB hg
 refine ⟨K', k1, ?_, ?_, k2, ?_, ?_, ?_, ?_, ?_⟩
 · rw [hc]
 · rw [hc]
 · rw [hc]; exact hw.2.1.sync
 · rw [hc]; exact sync_cut hw.2.1
 · rw [hc]; exact hb
 · rw [hc]
 · rw [hc]
theorem SOk.used {s : SW} {K : List (List Int)} (h : SOk s K) : s.l.used = (chain (log0 s.p.size s.gen) K).used ∧ s.l.size = hlf s.p.size := by
 have hl := h.log
 obtain ⟨-, c2, -⟩ := chain_same (log0 s.p.size s.gen) K
 rw [hl]
 exact ⟨rfl, c2⟩
theorem SOk.open_same {s : SW} {K : List (List Int)} (h : SOk s K) (hu : Up s.p) (hc : ∀ keep, s.p.cut keep = s.p) :
    ∃ s', opnS s.p = (s'.p, 0, some s') ∧ SOk s' K ∧ s'.gen = s.gen ∧ s'.broken = false ∧ s'.t.Perm s.t ∧ s'.p.size = s.p.size ∧ Up s'.p ∧ s'.l.used = s.l.used := by
 obtain ⟨s', o1, o2, o3, o4, o5, o6⟩ := h.open_ []
 rw [hc] at o1
 refine ⟨s', o1, o2, o3, o4, o5, o6, opn_up hu h.ok h.n4 o1, ?_⟩
 rw [o2.used.1, h.used.1, o3, o6]
def mchB (a b c : Nat) : PC := ⟨kM, metaB a b c, false⟩
theorem mch_len (a b c : Nat) : (putP [mchB a b c]).length = 32 := by simp [putP, chP, mchB, kM, metaB, beL_len]
theorem mch_ok (a b c : Nat) : pcsOk [mchB a b c] = true := by
 have h : (metaB a b c).length = 24 := by simp [metaB, beL_len]
 simp [pcsOk, pcOk, mchB, kM, h]
theorem mch_byt (a b c : Nat) : ∀ x ∈ [mchB a b c], PcB x := fun x hx => by
 rw [List.mem_singleton.1 hx]
 refine ⟨fun y hy => by simp [mchB, kM] at hy; omega, fun y hy => ?_⟩
 simp only [mchB, metaB, List.mem_append] at hy
 rcases hy with (hy | hy) | hy
 · exact beL_byt _ _ y hy
 · exact beL_byt _ _ y hy
 · exact beL_byt _ _ y hy
theorem vfmt_ok {p : DP} (hok : p.Ok) (hu : Up p) (h4 : 4 ≤ p.size) (n : Nat) : ∃ s1 s2 s3 K, opnS (fmtS p) = (s1.p, 0, some s1) ∧ SOk s1 [] ∧ Up (fmtS p) ∧ (fmtS p).size = p.size ∧
    s2 = (cmtS s1 [mchB n 0 0]).1 ∧ (cmtS s1 [mchB n 0 0]).2 = 0 ∧ SOk s2 K ∧ Up s2.p ∧ s2.p.size = p.size ∧ opnS s2.p = (s3.p, 0, some s3) ∧ SOk s3 K ∧ s3.gen = 1 ∧ s3.broken = false ∧ s3.t = [(kM, metaB n 0 0)] ∧ s3.p.size = p.size ∧ Up s3.p ∧ s3.l.used = 1 := by
 obtain ⟨f1, f2, f3⟩ := fmt_ok hok hu h4
 have hfu := (fmt_up hu h4).1
 obtain ⟨s1, o1, o2, o3, o4, o5, o6, o7, o8⟩ := f1.open_same hfu f3
 have hg : s1.gen = 1 := o3
 have hz : s1.p.size = p.size := o6.trans f2
 have h0 : s1.l.used = 0 := o8
 have hs1 : secN (putP [mchB n 0 0]).length = 1 := by rw [mch_len]; rfl
 have hh := (hlf_fit (g := 1) h4).1
 obtain ⟨K, k1, k2, k3, k4, k5, k6, k7, k8, k9⟩ := commit_up o2 o7 o4 (by rw [hg]; decide) (mch_ok n 0 0) (mch_byt n 0 0) (by rw [mch_len]; decide) (by rw [hs1, h0, o2.used.2, hz]; omega)
 obtain ⟨s3, q1, q2, q3, q4, q5, q6, q7, q8⟩ := k1.open_same k5 k6
 have ht : s3.t = [(kM, metaB n 0 0)] := by
  rw [k3, List.Perm.eq_nil o5] at q5
  exact List.perm_singleton.1 q5
 refine ⟨s1, _, s3, K, o1, o2, hfu, f2, rfl, k2, k1, k5, k4.trans hz, q1, q2, q3.trans (k9.trans hg), q4, ht, q6.trans (k4.trans hz), q7, ?_⟩
 rw [q8, k8]
 show s1.l.used + secN _ = 1
 rw [h0, hs1]
end Go.Proofs.YtpifnmlnhddgeaaGreatDoor
namespace Go.Proofs.YtpifnmlnhddgeaaGreatDoor
set_option linter.unusedVariables false
set_option linter.unusedSimpArgs false
set_option linter.constructorNameAsVariable false
open Go.RowKit Go.Sort Go.Maps
set_option maxHeartbeats 4000000
set_option maxRecDepth 100000
theorem vformat_bad (d : Value) (n : Nat) (w : World) (hn : n < 18446744073709551616) (h : ¬ (1 ≤ n ∧ n ≤ 4294967296)) :
    Calls Tryz.prog 11 #[d, .int .u64 n] w fun e w' => e = .returned (errD 1) ∧ w = w' := by
 rw [errD_n (show (1 : Int) ≠ 0 by decide)]
 by_cases h1 : n < 1
 · have k1 : (n : Int) < 1 := by omega
   clear h h1 hn
   go_enter Tryz.func11, Tryz.ntmps11
   go_wp2_with fail
   go_ret
   exact ⟨rfl, rfl⟩
 · have k1 : ¬ ((n : Int) < 1) := by omega
   have k2 : (4294967296 : Int) < (n : Int) := by omega
   clear h h1 hn
   go_enter Tryz.func11, Tryz.ntmps11
   go_wp2_with fail
   go_ret
   exact ⟨rfl, rfl⟩
theorem vformat_small {base : Nat} {w : World} {gd bs bf : Nat} {v : Value} {p : DP} (hD : Dk w base gd bs bf v p) (h : p.size < 4) (n : Nat) (h1 : 1 ≤ n) (h2 : n ≤ 4294967296) :
    Calls Tryz.prog 11 #[.pointer (some ⟨gd, 0, none⟩), .int .u64 n] w fun e w' => e = .returned (errD 1) ∧ w = w' := by
 have HF := Lib.hid (format_small hD h)
 rw [errD_n (show (1 : Int) ≠ 0 by decide)] at HF ⊢
 have k1 : ¬ ((n : Int) < 1) := by omega
 have k2 : ¬ ((4294967296 : Int) < (n : Int)) := by omega
 clear hD h h1 h2
 go_enter Tryz.func11, Tryz.ntmps11
 go_wp2_with fail
 refine HF.out.mono ?_
 rintro e w1 ⟨rfl, rfl⟩
 go_wp2_with fail
 go_ret
 exact ⟨rfl, rfl⟩
theorem vformat_any {W w : World} {gd bs bf : Nat} {v : Value} {p : DP} (hD : Dk w W.heap.size gd bs bf v p) (hN : New W w) (hL : ShaIn 1 0 W) (hu : Up p) (h4 : 4 ≤ p.size) (hz : p.size ≤ 3000) (n : Nat) (h1 : 1 ≤ n) (h2 : n ≤ 4294967296) {s1 : SW} (ho : opnS (fmtS p) = (s1.p, 0, some s1)) (hs : SOk s1 []) (hc : (cmtS s1 [mchB n 0 0]).2 = 0) :
    Calls Tryz.prog 11 #[.pointer (some ⟨gd, 0, none⟩), .int .u64 n] w fun e w' => e = .returned .nilIface ∧ (∃ v', Dk w' W.heap.size gd bs bf v' (cmtS s1 [mchB n 0 0]).1.p) ∧ New W w' := by
 have HFM := Lib.hid (fmt_l hD hN hL hu h4)
 have HFU := Lib.hid (fmt_up hu h4)
 have HL := Lib.hid hL
 have HO := Lib.hid (And.intro ho (And.intro hs hc))
 have HZ := Lib.hid (And.intro h4 hz)
 have HN0 := Lib.hid hN
 have HMT := Lib.hid (fun W => meta_any n 0 0 W (by omega) (by omega) (by omega))
 have k1 : ¬ ((n : Int) < 1) := by omega
 have k2 : ¬ ((4294967296 : Int) < (n : Int)) := by omega
 clear hD hN hL hu h4 hz h1 h2 ho hs hc
 go_enter Tryz.func11, Tryz.ntmps11
 go_wp2_with fail
 refine HFM.out.mono ?_
 rintro e w2 ⟨rfl, ⟨v2, hD2⟩, hK2⟩
 have HD2 := Lib.hid hD2
 have HN2 : Hid (New W w2) := Lib.hid (hK2.nw HN0.out)
 clear hD2 hK2 k1 k2 HFM
 go_wp2_with fail
 refine (open_s HD2.out HN2.out HL.out HFU.out.1 (by rw [HFU.out.2]; exact HZ.out.1) (by rw [HFU.out.2]; exact HZ.out.2) HO.out.1 HO.out.2.1).mono ?_
 rintro e w3 ⟨gs, bt, rfl, hS3, -, -, -⟩
 have HS3 := Lib.hid hS3
 clear hS3 HD2 HN2
 go_wp2_with fail
 refine (HMT.out w3).mono ?_
 rintro e w4 ⟨⟨x, rfl, hpc, hX, hk1, hv24⟩, hN4⟩
 obtain ⟨⟨kA, kn, kc, kx⟩, ⟨vA, vn, vc, vx⟩, dd⟩ := x
 have hk1 : kn = 1 := hk1
 have hv24 : vn = 24 := hv24
 subst hk1 hv24
 have HX := Lib.hid hX
 have HPC := Lib.hid hpc
 have HN4 := Lib.hid hN4
 have hdd : dd = false := congrArg PC.d hpc
 subst hdd
 clear hX hpc hN4
 unfold Ch.cells
 dsimp only
 go_wp2_with fail
 refine calls_world fun w5 hw5 => ?_
 have HN5 : Hid (New w4 w5) := Lib.hid (by rw [hw5.out]; exact (New.refl _).al _)
 have HB5 : Hid (Blk w5 w4.heap.size 124 #[.slice kA 1 kc, .slice vA 24 vc, .bool false]) := Lib.hid (by rw [hw5.out]; exact Blk.new' _ _ _ (by simp))
 clear hw5
 have HXI : Hid (Ch.InT w5 ⟨⟨kA, 1, kc, kx⟩, ⟨vA, 24, vc, vx⟩, false⟩) := Lib.hid (HX.out.new HN5.out).inT
 have HS5 : Hid (Sto W w5 gs gd bs bf bt s1 [] (600 * hlf (fmtS p).size)) := Lib.hid (HS3.out.new (HN4.out.tr HN5.out))
 obtain ⟨q, hq⟩ := nm (fun k => IsT 5 w5 k ∨ IsT 124 w5 k)
 have HQ : Hid (Kept1 W w5 q ∧ (∀ k, IsT 5 w5 k → q k) ∧ (∀ k, IsT 124 w5 k → q k)) := Lib.hid (by rw [hq]; exact ⟨fun k hk => .inr hk, fun k h => .inl h, fun k h => .inr h⟩)
 have HR5 : Hid (Rd q w5 3 (some ⟨w4.heap.size, 0, none⟩) 1 [.slice kA 1 kc, .slice vA 24 vc, .bool false]) := Lib.hid (Rd.ofBlk HB5.out 3 1 rfl (HQ.out.2.2 _ ⟨_, _, HB5.out⟩))
 clear hq HB5 HX HS3 HN4 HN5
 have hcm := commit_any HS5.out.st HS5.out.nw HL.out (by rw [HFU.out.2]; have := HZ.out.2; unfold hlf; omega) HS5.out.ok.tok (some ⟨w4.heap.size, 0, none⟩) 1 1 [⟨⟨kA, 1, kc, kx⟩, ⟨vA, 24, vc, vx⟩, false⟩] HR5.out rfl (fun c hc => by
  rw [List.mem_singleton] at hc
  subst hc
  exact ⟨⟨HXI.out.k.imp HQ.out.2.1, HXI.out.kb⟩, ⟨HXI.out.v.imp HQ.out.2.1, HXI.out.vb⟩⟩) HQ.out.1 (by decide) (fun c hc => by
  rw [List.mem_singleton] at hc
  subst hc
  exact ⟨(show 1 ≤ maxLen by decide), (show 24 ≤ maxLen by decide)⟩)
 rw [List.map_singleton, show pcOf ⟨⟨kA, 1, kc, kx⟩, ⟨vA, 24, vc, vx⟩, false⟩ = mchB n 0 0 from HPC.out] at hcm
 refine hcm.mono ?_
 clear hcm
 rintro e w6 ⟨rfl, hS6, hK6⟩
 rw [HO.out.2.2, errD_0]
 have HD6 : Hid (∃ v', Dk w6 W.heap.size gd bs bf v' (cmtS s1 [mchB n 0 0]).1.p) := Lib.hid (by
  obtain ⟨gl, gt, v6, X, m, E, hX⟩ := hS6
  exact ⟨v6, hX.dk⟩)
 have HN6 : Hid (New W w6) := Lib.hid (hK6.nw HS5.out.nw)
 clear hS6 hK6
 go_wp2_with fail
 go_ret
 exact ⟨rfl, HD6.out, HN6.out⟩
end Go.Proofs.YtpifnmlnhddgeaaGreatDoor
namespace Go.Proofs.YtpifnmlnhddgeaaGreatDoor
set_option linter.unusedVariables false
set_option linter.unusedSimpArgs false
set_option linter.constructorNameAsVariable false
open Go.RowKit Go.Sort Go.Maps
set_option maxHeartbeats 4000000
set_option maxRecDepth 100000
theorem eidx_nil (f : Value) (w : World) : Calls Tryz.prog 88 #[.slice none 0 0, f] w fun e w' => e = .returned (.int .i64 (-1)) ∧ w = w' := by
 go_enter Tryz.func88, Tryz.ntmps88
 go_wp2_with fail
 go_loopw [8] (fun i wr => i = .int .i64 0 ∧ wr = w) (fun _ _ => 0)
 case atStart => exact ⟨rfl, rfl⟩
 case round =>
  obtain ⟨rfl, rfl⟩ := hrel
  go_wp2_with fail
  go_ret
  exact ⟨rfl, rfl⟩
theorem delf_nil (f : Value) (w : World) : Calls Tryz.prog 59 #[.slice none 0 0, f] w fun e w' => e = .returned (.slice none 0 0) ∧ w = w' := by
 go_enter Tryz.func59, Tryz.ntmps59
 go_wp2_with fail
 refine (eidx_nil f w).mono ?_
 rintro e w' ⟨rfl, rfl⟩
 go_wp2_with fail
 go_ret
 exact ⟨rfl, rfl⟩
theorem load_m (v t : Value) (A : Option Addr) (n c : Nat) (w : World) :
    Calls Tryz.prog 58 #[v, t, .string (strOfNums [77]), .slice A n c] w fun e w' => e = .returned .nilIface ∧ New w w' := by
 have hs : strOfNums [77] = ⟨#[77]⟩ := rfl
 rw [hs]
 obtain ⟨cc, w1, hc, hN, hR⟩ := conv_back [] (fun x hx => nomatch hx) w
 rw [show strOfNums [] = ByteArray.empty from rfl] at hc
 have HN := Lib.hid hN
 have HR := Lib.hid hR
 clear hs hN hR
 go_enter Tryz.func58, Tryz.ntmps58
 go_wp2_with fail
 clear hc
 refine (from_any (some ⟨w.heap.size, 0, none⟩) 0 cc [] w1 HR.out (fun x hx => nomatch hx) (by decide)).mono ?_
 rintro e w2 ⟨g, rfl, -, hN2, -⟩
 have HN2 : Hid (New w w2) := Lib.hid (HN.out.tr hN2)
 clear hN2
 go_wp2_with fail
 go_ret
 exact ⟨rfl, HN2.out⟩
end Go.Proofs.YtpifnmlnhddgeaaGreatDoor
namespace Go.Proofs.YtpifnmlnhddgeaaGreatDoor
set_option linter.unusedVariables false
set_option linter.unusedSimpArgs false
set_option linter.constructorNameAsVariable false
open Go.RowKit Go.Sort Go.Maps
def Oth (bs bf bt : Nat) (w : World) (k : Nat) : Prop :=
 (∃ t cs, Blk w k t cs ∧ t ≠ 245 ∧ t ≠ 420 ∧ t ≠ 116 ∧ t ≠ 3 ∧ t ≠ 5 ∧ t ≠ 271) ∨ ((∃ (P : Program) (kt n : Nat) (f : Lit → Option Value), MapAt w P kt k n f) ∧ k ≠ bs ∧ k ≠ bf ∧ k ≠ bt)
theorem Oth.blk {bs bf bt : Nat} {w : World} {k g t : Nat} {cs : Array Value} (h : Oth bs bf bt w k) (hb : Blk w g t cs) (ht : t = 245 ∨ t = 420 ∨ t = 116 ∨ t = 271) : g ≠ k := by
 rcases h with ⟨t', cs', hb', h1, h2, h3, -, -, h6⟩ | ⟨⟨P, kt, n, f, hm⟩, -⟩
 · refine Blk.ne_ hb hb' fun e => ?_
   rcases ht with h | h | h | h
   · exact h1 (by rw [← e, h])
   · exact h2 (by rw [← e, h])
   · exact h3 (by rw [← e, h])
   · exact h6 (by rw [← e, h])
 · exact map_ne_blk hm hb
theorem Oth.isT {bs bf bt : Nat} {w : World} {k t : Nat} (h : Oth bs bf bt w k) (ht : t = 3 ∨ t = 5) (hk : IsT t w k) : False := by
 rcases h with ⟨t', cs', hb', -, -, -, h4, h5, -⟩ | ⟨⟨P, kt, n, f, hm⟩, -⟩
 · refine IsT.not_blk hb' ?_ hk
   rcases ht with h | h
   · rw [h]; exact h4
   · rw [h]; exact h5
 · exact IsT.not_map hm hk
theorem Oth.map {bs bf bt : Nat} {w : World} {k b n kt : Nat} {P : Program} {f : Lit → Option Value} (h : Oth bs bf bt w k) (hM : MapAt w P kt b n f) (hb : b = bs ∨ b = bf ∨ b = bt) : b ≠ k := by
 rcases h with ⟨t', cs', hb', -⟩ | ⟨-, h1, h2, h3⟩
 · exact (map_ne_blk hM hb').symm
 · rcases hb with rfl | rfl | rfl
   · exact h1.symm
   · exact h2.symm
   · exact h3.symm
theorem Sto.fr {W w w' : World} {gs gd bs bf bt mm : Nat} {s : SW} {K : List (List Int)} {S : Nat → Prop} (h : Sto W w gs gd bs bf bt s K mm) (hF : Fr S w w') (hS : ∀ k, S k → W.heap.size ≤ k ∧ Oth bs bf bt w k) : Sto W w' gs gd bs bf bt s K mm := by
 obtain ⟨gl, gt, v, X, m, E, hX⟩ := h.st
 obtain ⟨f, hm, -⟩ := hX.tb.map
 refine ⟨⟨gl, gt, v, X, m, E, hX.blk.fr hF (fun h => (hS _ h).2.blk hX.blk (.inl rfl) rfl), hX.dk.fr hF (fun k hk => ?_), hX.lg.fr hF (fun h => (hS _ h).2.blk hX.lg.blk (.inr (.inl rfl)) rfl), hX.tb.fr hF (fun h => (hS _ h).2.blk hX.tb.blk (.inr (.inr (.inr rfl))) rfl) (fun h => (hS _ h).2.map hm (.inr (.inr rfl)) rfl) (fun k hk hx => (hS _ hk).2.isT (.inr rfl) (hX.tb.xs k hx).2), hX.lo, hX.ne, hX.ct, hX.mm, hX.gen, hX.n4⟩, h.ok, h.nw.fr hF (fun k hk => (hS k hk).1)⟩
 rintro (rfl | rfl | rfl | hv)
 · exact (hS _ hk).2.blk hX.dk.blk (.inr (.inr (.inl rfl))) rfl
 · exact (hS _ hk).2.map hX.dk.ms (.inl rfl) rfl
 · exact (hS _ hk).2.map hX.dk.mw (.inr (.inl rfl)) rfl
 · exact (hS _ hk).2.isT (.inl rfl) (own_isT' hX.dk.own hv)
end Go.Proofs.YtpifnmlnhddgeaaGreatDoor
namespace Go.Proofs.YtpifnmlnhddgeaaGreatDoor
set_option linter.unusedVariables false
set_option linter.unusedSimpArgs false
set_option linter.constructorNameAsVariable false
open Go.RowKit Go.Sort Go.Maps
attribute [local go_sem] Oper.semAt_some
structure VaX (W w : World) (gv gs gd bs bf bt bm gt bn nm : Nat) (KV : Value) (now : VS) (ep ba : Nat) (s : SW) (K : List (List Int)) (mm : Nat) : Prop where
 blk : Blk w gv 137 #[.pointer (some ⟨gs, 0, none⟩), .int .u64 now.blocks, .map (some bm), .pointer (some ⟨gt, 0, none⟩), .int .u64 ep, .int .u64 ba, KV]
 st : Sto W w gs gd bs bf bt s K mm
 now : StM w now bm nm gt bn
 lo : W.heap.size ≤ gv ∧ W.heap.size ≤ bm ∧ W.heap.size ≤ gt ∧ W.heap.size ≤ bn
 ne : bm ≠ bn ∧ (bm ≠ bs ∧ bm ≠ bf ∧ bm ≠ bt) ∧ (bn ≠ bs ∧ bn ≠ bf ∧ bn ≠ bt)
theorem tv1 {E : Tab} {xs : List Int} (h : cont E = [(kM, xs)]) : (E.lookup kM).isSome = true ∧ (tval E kM).xs = xs := by
 cases E with
 | nil => simp [cont] at h
 | cons e E =>
  simp only [cont, List.map_cons, List.cons.injEq, Prod.mk.injEq] at h
  obtain ⟨⟨h1, h2⟩, -⟩ := h
  have hl : (e :: E).lookup kM = some e.2 := by
   rw [← h1]
   obtain ⟨a, b⟩ := e
   simp
  rw [hl]
  refine ⟨rfl, ?_⟩
  unfold tval
  rw [hl]
  exact h2
theorem meta_read (n : Nat) (hn : n < 18446744073709551616) : (⟨metaB n 0 0, 0⟩ : Rs).num 8 = (n, ⟨beL 8 0 ++ beL 8 0, 0⟩) ∧ (⟨beL 8 0 ++ beL 8 0, 0⟩ : Rs).num 8 = (0, ⟨beL 8 0, 0⟩) ∧ (⟨beL 8 0, 0⟩ : Rs).num 8 = (0, ⟨[], 0⟩) := by
 refine ⟨?_, num_be (by decide), ?_⟩
 · have := num_be (size := 8) (n := n) (ys := beL 8 0 ++ beL 8 0) (by omega)
   simpa [metaB, List.append_assoc] using this
 · have := num_be (size := 8) (n := 0) (ys := []) (by decide)
   simpa using this
set_option maxHeartbeats 4000000
set_option maxRecDepth 100000
theorem vopen_fresh {W0 w : World} {gd bs bf : Nat} {v : Value} {s : SW} {K : List (List Int)} {p : DP} (hD : Dk w W0.heap.size gd bs bf v p) (hN : New W0 w) (hL : ShaIn 1 0 W0) (hu : Up p) (h4 : 4 ≤ p.size) (hz : p.size ≤ 3000) (ho : opnS p = (s.p, 0, some s)) (hs : SOk s K) (n : Nat) (h1 : 1 ≤ n) (h2 : n ≤ 4294967296) (ht : s.t = [(kM, metaB n 0 0)]) :
    Calls Tryz.prog 12 #[.pointer (some ⟨gd, 0, none⟩)] w fun e w' => ∃ gv gs bt bm gt bn, e = .returned (.tuple #[.pointer (some ⟨gv, 0, none⟩), .nilIface]) ∧ VaX W0 w' gv gs gd bs bf bt bm gt bn 0 (.slice none 0 0) ⟨n, []⟩ 0 0 s K (600 * hlf p.size) := by
 have HOP := Lib.hid (fun W' (hN' : New w W') => open_s (hD.fr (S := NoB) (hN'.toFr NoB) (fun _ x => x.elim)) (hN.tr hN') hL hu h4 hz ho hs)
 have HL := Lib.hid hL
 have HT := Lib.hid ht
 have HMM : Hid (600 * hlf p.size ≤ 1000000) := Lib.hid (by unfold hlf; omega)
 have HRD := Lib.hid (meta_read n (by omega))
 have HN12 := Lib.hid (And.intro h1 h2)
 have HBS : Hid (bs < w.heap.size ∧ bf < w.heap.size) := Lib.hid ⟨hD.ms.lt, hD.mw.lt⟩
 have HNW0 := Lib.hid hN
 clear hD hN hL hu h4 hz ho hs ht h1 h2
 refine (callsIn_wide (n := 3)).1 ?_
 refine callsIn_of_wp_marks Tryz.func12 rfl trivial ?_ rfl
 refine wpIn_wide.2 ?_
 simp only [Tryz.ntmps12, List.size_toArray, List.length_cons, List.length_nil, Nat.reduceAdd, Nat.reduceSub, Array.replicate_succ, Array.replicate_zero, List.push_toArray, List.append_toArray, List.nil_append, List.cons_append]
 go_upto_region 1 with fail
 obtain ⟨w1, hw1⟩ := nm ((w.alloc (Obj.cells #[.pointer none] 35)).alloc (Obj.cells #[.nilIface] 31))
 obtain ⟨b2, hb2⟩ := nm w.heap.size
 obtain ⟨b3, hb3⟩ := nm (w.heap.size + 1)
 have HN1 : Hid (New w w1) := Lib.hid (by rw [hw1]; exact New.al (New.al (New.refl _) _) _)
 have HB2 : Hid (Blk w1 b2 35 #[.pointer none]) := Lib.hid (by rw [hw1, hb2]; exact (Blk.new _ _ _).alloc _)
 have HB3 : Hid (Blk w1 b3 31 #[.nilIface]) := Lib.hid (by rw [hw1, hb3]; exact Blk.new' _ _ _ (by simp))
 have HZ : Hid (b2 = w.heap.size ∧ b3 = w.heap.size + 1) := Lib.hid ⟨hb2, hb3⟩
 rw [← hw1, ← hb3, ← hb2]
 clear hw1 hb2 hb3
 go_wp2_with fail
 refine (HOP.out w1 HN1.out).mono ?_
 rintro e w2 ⟨gs, bt, rfl, hS, hgs, hbt, hK⟩
 have HB22 : Hid (Blk w2 b2 35 #[.pointer none]) := Lib.hid (hK.blk HB2.out (by have h1 := HBS.out; have h2 := HZ.out; rintro (h | h | h) <;> omega) (by decide) (by decide) (by decide) (by decide))
 have HB32 : Hid (Blk w2 b3 31 #[.nilIface]) := Lib.hid (hK.blk HB3.out (by have h1 := HBS.out; have h2 := HZ.out; rintro (h | h | h) <;> omega) (by decide) (by decide) (by decide) (by decide))
 have HS := Lib.hid hS
 have HG := Lib.hid (And.intro hgs hbt)
 clear hS hgs hbt hK HB2 HB3 HOP
 go_wp2_with fail
 refine calls_world fun w3 hw3 => ?_
 have HN3 : Hid (New w2 w3) := Lib.hid (by rw [hw3.out]; exact New.al (New.refl _) _)
 have HA3 : Hid (Rd (fun _ => True) w3 1 (some ⟨w2.heap.size, 0, none⟩) 1 (u8s [77])) := Lib.hid (by
  have hb : Blk w3 w2.heap.size 5 #[.int .u8 77] := by rw [hw3.out]; exact Blk.new' _ _ _ (by simp)
  exact Rd.ofBlk hb 1 1 rfl trivial)
 clear hw3
 refine (sget_any (HS.out.new HN3.out).st (some ⟨w2.heap.size, 0, none⟩) 1 1 [77] HA3.out (fun x hx => by simp at hx; omega) (by decide)).mono ?_
 rintro e w4 ⟨⟨E, hE, A', c', rfl, hO4⟩, hN4⟩
 have hlk := tv1 (hE.trans HT.out)
 have hlen : (tval E [77]).n = 24 := by
  have h := hO4.1
  rw [u8s_len, show (tval E [77]).xs = metaB n 0 0 from hlk.2, metaB_len] at h
  omega
 rw [show (E.lookup [77]).isSome = true from hlk.1, hlen]
 rw [show (tval E [77]).xs = metaB n 0 0 from hlk.2, hlen] at hO4
 have HO4 := Lib.hid hO4
 have HN4 : Hid (New w2 w4) := Lib.hid (HN3.out.tr hN4)
 clear hE hO4 hN4 hlk hlen HA3 HN3 E
 go_wp2_with fail
 refine (from_any A' 24 c' (metaB n 0 0) w4 (Rd.own HO4.out rfl) (metaB_byt _ _ _) (by decide)).mono ?_
 rintro e w5 ⟨g, rfl, hR5, hN5, hg5⟩
 have HR5 := Lib.hid hR5
 have HN5 : Hid (New w2 w5) := Lib.hid (HN4.out.tr hN5)
 have HG5 : Hid (w2.heap.size ≤ g) := Lib.hid (Nat.le_trans HN4.out.size hg5)
 clear hR5 hN5 hg5 HO4 HN4
 go_wp2_with fail
 refine (rnum_any HR5.out 8 (by omega)).mono ?_
 rw [HRD.out.1]
 rintro e w6 ⟨rfl, hR6, hF6⟩
 have HR6 := Lib.hid hR6
 have HN6 : Hid (New w2 w6) := Lib.hid (HN5.out.fr hF6 (fun k hk => by have := HG5.out; omega))
 clear hR6 hF6 HR5 HN5
 dsimp only
 go_wp2_with fail
 refine (rnum_any HR6.out 8 (by omega)).mono ?_
 rw [HRD.out.2.1]
 rintro e w7 ⟨rfl, hR7, hF7⟩
 have HR7 := Lib.hid hR7
 have HN7 : Hid (New w2 w7) := Lib.hid (HN6.out.fr hF7 (fun k hk => by have := HG5.out; omega))
 clear hR7 hF7 HR6 HN6
 dsimp only
 go_wp2_with fail
 refine (rnum_any HR7.out 8 (by omega)).mono ?_
 rw [HRD.out.2.2]
 rintro e w8 ⟨rfl, hR8, hF8⟩
 have HR8 := Lib.hid hR8
 have HN8 : Hid (New w2 w8) := Lib.hid (HN7.out.fr hF8 (fun k hk => by have := HG5.out; omega))
 clear hR8 hF8 HR7 HN7
 dsimp only
 go_upto_region 8 with fail
 obtain ⟨w9, hw9⟩ := nm ((w8.alloc (Obj.cells #[.pointer (some ⟨gs, 0, none⟩), .int .u64 0, .map none, .pointer none, .int .u64 0, .int .u64 0, .slice none 0 0] 137)).alloc (Obj.cells #[.pointer (some ⟨w8.heap.size, 0, none⟩)] 35))
 obtain ⟨b10, hb10⟩ := nm (w8.heap.size + 1)
 obtain ⟨gv, hgv⟩ := nm w8.heap.size
 have HN9 : Hid (New w2 w9) := Lib.hid (by rw [hw9]; exact (HN8.out.al _).al _)
 have HBV : Hid (Blk w9 gv 137 [.pointer (some ⟨gs, 0, none⟩), .int .u64 0, .map none, .pointer none, .int .u64 0, .int .u64 0, .slice none 0 0].toArray) := Lib.hid (by rw [hw9, hgv]; exact (Blk.new _ _ _).alloc _)
 have HB10 : Hid (Blk w9 b10 35 #[.pointer (some ⟨gv, 0, none⟩)]) := Lib.hid (by rw [hw9, hb10, hgv]; exact Blk.new' _ _ _ (by simp))
 have HR9 : Hid (RdIn w9 g ⟨[], 0⟩) := Lib.hid (by rw [hw9]; exact HR8.out.new ((New.al (New.refl _) _).al _))
 have HZ9 : Hid (b10 = gv + 1 ∧ w2.heap.size ≤ gv ∧ gv < w9.heap.size) := Lib.hid ⟨by omega, by rw [hgv]; exact HN8.out.size, HBV.out.lt⟩
 rw [← hgv] at hw9
 rw [← hb10, ← hgv, ← hw9]
 clear hw9 hb10 hgv HR8 HN8
 go_wp2_with fail
 refine (rend_any HR9.out).mono ?_
 rw [show (⟨[], 0⟩ : Rs).fin = 0 from rfl, errV_zero]
 rintro e w' ⟨rfl, rfl⟩
 go_upto_region 10 with fail
 have q0 : ∀ p : HW (fun w' => Blk w' b10 35 #[.pointer (some ⟨gv, 0, none⟩)]), p.w.cell? ⟨b10, 0, none⟩ = some (.pointer (some ⟨gv, 0, none⟩)) := fun p => Blk.cell p.h 0
 refine wp_region_mixH (fun w' => Blk w' b10 35 #[.pointer (some ⟨gv, 0, none⟩)]) [(true, 0), (true, 1), (false, 2), (true, 3), (true, 4), (true, 5), (true, 6), (true, 7), (false, 8), (true, 9)] (by kernel_rfl) (by kernel_rfl) ((New.dr (New.refl w9)).blk HB10.out) (fun hne => ?_)
 iterate 2 (refine mix_take (o := ⟨_, _, _, _, _, _⟩) rfl (fun K hK => ?_); go_simp; refine hK _ ?_; clear hK K)
 refine mix_act (o := ⟨_, _, _, _, _, _⟩) rfl (fun K hK => ?_) (.inl rfl)
 go_simp
 refine (blank_any n w9.drew (HL.out.new ((HS.out.nw.tr HN9.out).tr (New.dr (New.refl w9)))) HN12.out.1 HN12.out.2).mono ?_
 rintro e wa ⟨bm, gt, bn, rfl, hST, hNa, z1, z2, z3, z4⟩
 have hNa : New w9 wa := (New.dr (New.refl w9)).tr hNa
 have HST := Lib.hid hST
 have HNa := Lib.hid hNa
 have HZA : Hid (w9.heap.size ≤ bm ∧ w9.heap.size ≤ gt ∧ w9.heap.size ≤ bn ∧ bm ≠ bn) := Lib.hid ⟨z1, z2, z3, z4⟩
 have HBa : Hid (Blk wa b10 35 #[.pointer (some ⟨gv, 0, none⟩)]) := Lib.hid (hNa.blk HB10.out)
 clear hST hNa z1 z2 z3 z4
 go_simp
 refine hK.out _ _ (fun _ => HBa.out) ?_
 clear hK K
 iterate 5 (refine mix_take (o := ⟨_, _, _, _, _, _⟩) rfl (fun K hK => ?_); go_simp; refine hK _ ?_; clear hK K)
 refine mix_store_part (o := ⟨_, _, _, _, _, _⟩) (cells := [.int .u64 n, .map (some bm), .pointer (some ⟨gt, 0, none⟩)]) rfl rfl (.tmp 51) (.tmp 48) rfl rfl rfl (HNa.out.blk HBV.out) (by simp) (by kernel_rfl) (by simp [Value.oneCell']) ?_
 intro wb hBb hFb
 have hBb : Blk wb gv 137 #[.pointer (some ⟨gs, 0, none⟩), .int .u64 n, .map (some bm), .pointer (some ⟨gt, 0, none⟩), .int .u64 0, .int .u64 0, .slice none 0 0] := hBb
 have HBb := Lib.hid hBb
 have HB10b : Hid (Blk wb b10 35 #[.pointer (some ⟨gv, 0, none⟩)]) := Lib.hid (HBa.out.fr hFb (by have := HZ9.out; omega))
 have HSTb : Hid (StM wb ⟨n, []⟩ bm 0 gt bn) := Lib.hid (HST.out.fr hFb (by have := HZ9.out; have := HZA.out; omega) (by have := HZ9.out; have := HZA.out; omega) (by have := HZ9.out; have := HZA.out; omega))
 have HNb : Hid (New w2 wb) := Lib.hid ((HN9.out.tr HNa.out).fr hFb (fun k hk => by have := HZ9.out; omega))
 clear hBb hFb HBa HNa HST HBV HN9 HR9 HB10
 refine ⟨fun _ => HB10b.out, ?_⟩
 simp only [Act.put, List.setIfInBounds_toArray, List.set_cons_zero, List.set_cons_succ]
 (refine mix_take (o := ⟨_, _, _, _, _, _⟩) rfl (fun K hK => ?_); go_simp; refine hK _ ?_; clear hK K)
 clear q0
 refine mix_done ?_
 go_wp2_with fail
 refine (table_any (HS.out.new HNb.out).st (HS.out.nw.tr HNb.out)).mono ?_
 rintro e wc ⟨⟨X', m', E', g', b', rfl, hTB, hcE, hm', hE', hg', hb'⟩, hNc⟩
 have HTB := Lib.hid hTB
 have HCE : Hid (∀ e ∈ st E', e.1 = kM) := Lib.hid (fun e he => by
  have h1 := st_mem he
  have h2 : (e.1, e.2.xs) ∈ cont E' := List.mem_map.2 ⟨e, h1, rfl⟩
  rw [hcE, HT.out, List.mem_singleton] at h2
  exact congrArg Prod.fst h2)
 have HME : Hid (m' ≤ 1000000 ∧ E'.length ≤ 1000000) := Lib.hid (by have := HMM.out; omega)
 have HNc : Hid (New w2 wc) := Lib.hid (HNb.out.tr hNc)
 have HBc : Hid (Blk wc gv 137 #[.pointer (some ⟨gs, 0, none⟩), .int .u64 n, .map (some bm), .pointer (some ⟨gt, 0, none⟩), .int .u64 0, .int .u64 0, .slice none 0 0] ∧ Blk wc b10 35 #[.pointer (some ⟨gv, 0, none⟩)] ∧ StM wc ⟨n, []⟩ bm 0 gt bn) := Lib.hid ⟨hNc.blk HBb.out, hNc.blk HB10b.out, HSTb.out.new hNc⟩
 clear hTB hcE hm' hE' hg' hb' hNc HNb HBb HB10b HSTb hne
 go_upto_region 14 with fail
 obtain ⟨wd, hwd⟩ := nm (wc.alloc (Obj.cells #[.pointer (some ⟨g', 0, none⟩)] 141))
 obtain ⟨b11, hb11⟩ := nm wc.heap.size
 have HNd : Hid (New wc wd) := Lib.hid (by rw [hwd]; exact New.al (New.refl _) _)
 have HB11 : Hid (Blk wd b11 141 #[.pointer (some ⟨g', 0, none⟩)]) := Lib.hid (by rw [hwd, hb11]; exact Blk.new _ _ _)
 have c11 : wd.cell? ⟨b11, 0, none⟩ = some (.pointer (some ⟨g', 0, none⟩)) := HB11.out.cell 0
 rw [← hwd, ← hb11]
 clear hwd hb11
 go_wp2_with fail
 clear c11
 refine (all_any (some ⟨g', 0, none⟩) wd).mono ?_
 rintro e we ⟨rfl, hwe⟩
 have HNe : Hid (New wc we) := Lib.hid (HNd.out.tr (by rw [hwe]; exact New.al (New.refl _) _))
 have HSQ := Lib.hid (all1_live (HTB.out.new HNe.out) HME.out.1 HME.out.2 (fun _ => False) wd.heap.size (by rw [hwe]; exact Blk.new wd _ _) (fun j hj => hj.elim))
 have HDE : Hid (New wd we) := Lib.hid (by rw [hwe]; exact New.al (New.refl _) _)
 clear hwe HTB
 go_wp2_with fail
 refine wp_rangeR rfl (enters_of Tryz.func136 (by kernel_rfl) rfl) (fun x : List Int × Fm => #[.string (strOfNums x.1), x.2.val]) (fun _ => rfl) HSQ.out (fun x W W' hg hp => hg.puts hp) (fun h k => h.tr k) (fun W W' hp => Kk.puts hp)
  (fun _ W => New we W) (fun s A B h hN => h.tr hN) (fun s A B h hp => h.fr (hp.fr (S := fun j => we.heap.size ≤ j) (fun j hj => hj)) (fun k hk => hk)) (New.refl we) ?a1 ?assign ?body ?done
 case assign =>
  intro l x W K hK
  gi_wp2
  exact hK
 case body =>
  rintro l pre x W hpl hI hG ⟨e, he, hx1, -, -⟩
  have hxk : x.1 = [77] := hx1.trans (HCE.out e (List.mem_of_getElem? he))
  have c10 : W.cell? ⟨b10, 0, none⟩ = some (.pointer (some ⟨gv, 0, none⟩)) := hI.cell_ (HNe.out.cell_ (HBc.out.2.1.cell 0))
  have c11 : W.cell? ⟨b11, 0, none⟩ = some (.pointer (some ⟨g', 0, none⟩)) := hI.cell_ (HDE.out.cell_ (HB11.out.cell 0))
  obtain ⟨xk, xA, xn, xc, xs⟩ := x
  obtain rfl : xk = [77] := hxk
  have HI := Lib.hid hI
  clear hI hG he hx1 hpl
  simp only [Fm.val]
  gi_wp2
  refine ⟨trivial, ?_⟩
  refine (CallsIn.inRound l (callsIn_wide.2 (load_m (.pointer (some ⟨gv, 0, none⟩)) (.pointer (some ⟨g', 0, none⟩)) xA xn xc W))).mono ?_
  rintro e W2 ⟨rfl, hN2⟩
  have HN2 := Lib.hid hN2
  clear hN2 c10 c11
  gi_wp2
  exact ⟨Kept.new HN2.out, Kk.fr (HN2.out.toFr _), HI.out.tr HN2.out⟩
 case done =>
  rintro D fs W hD hfs hI hDm
  have HM : Hid (Marks we.heap.size [D] W) := Lib.hid (Marks.cons (Marks.nil we.heap.size W) (fun _ h => by cases h) hD hDm)
  have HNW : Hid (New wc W) := Lib.hid (HNe.out.tr hI)
  clear hI hDm hfs
  dsimp only
  go_upto_region 20 with fail
  have HS6 : Hid (Blk W b10 35 #[.pointer (some ⟨gv, 0, none⟩)] ∧ Blk W gv 137 #[.pointer (some ⟨gs, 0, none⟩), .int .u64 n, .map (some bm), .pointer (some ⟨gt, 0, none⟩), .int .u64 0, .int .u64 0, .slice none 0 0]) := Lib.hid ⟨HNW.out.blk HBc.out.2.1, HNW.out.blk HBc.out.1⟩
  have HN2W : Hid (New w2 W) := Lib.hid (HNc.out.tr HNW.out)
  have HBW : Hid (Blk W b2 35 #[.pointer none] ∧ Blk W b3 31 #[.nilIface] ∧ StM W ⟨n, []⟩ bm 0 gt bn) := Lib.hid ⟨HN2W.out.blk HB22.out, HN2W.out.blk HB32.out, HBc.out.2.2.new HNW.out⟩
  have HZZ : Hid (b2 < w2.heap.size ∧ b3 < w2.heap.size ∧ b2 ≠ b3 ∧ b10 ≠ gv ∧ w2.heap.size ≤ gv ∧ w2.heap.size ≤ b10) := Lib.hid (by
   have h1 := HB22.out.lt
   have h2 := HB32.out.lt
   have h3 := HZ.out
   have h4 := HZ9.out
   omega)
  have HLT : Hid (bm < we.heap.size ∧ gt < we.heap.size ∧ bn < we.heap.size ∧ w2.heap.size ≤ we.heap.size) := Lib.hid (by
   have h1 := HBc.out.2.2.lt
   have h2 := HNe.out.size
   have h3 := HNc.out.size
   omega)
  have HOT : Hid (∀ k, k = b2 ∨ k = b3 → W0.heap.size ≤ k ∧ Oth bs bf bt w2 k) := Lib.hid (by
   rintro k (rfl | rfl)
   · exact ⟨by have := HZ.out; have := HNW0.out.size; omega, .inl ⟨_, _, HB22.out, by decide, by decide, by decide, by decide, by decide, by decide⟩⟩
   · exact ⟨by have := HZ.out; have := HNW0.out.size; omega, .inl ⟨_, _, HB32.out, by decide, by decide, by decide, by decide, by decide, by decide⟩⟩)
  clear HSQ HNd HNe HDE HB11 HNc HBc HNW HB22 HB32 HCE HME HMM HRD
  obtain ⟨SW6, hSW6⟩ := nm (fun w' : World => Blk w' b10 35 #[.pointer (some ⟨gv, 0, none⟩)] ∧ Blk w' gv 137 #[.pointer (some ⟨gs, 0, none⟩), .int .u64 n, .map (some bm), .pointer (some ⟨gt, 0, none⟩), .int .u64 0, .int .u64 0, .slice none 0 0])
  have HSI : Hid (∀ w', SW6 w' ↔ Blk w' b10 35 #[.pointer (some ⟨gv, 0, none⟩)] ∧ Blk w' gv 137 #[.pointer (some ⟨gs, 0, none⟩), .int .u64 n, .map (some bm), .pointer (some ⟨gt, 0, none⟩), .int .u64 0, .int .u64 0, .slice none 0 0]) := Lib.hid (by rw [hSW6]; exact fun _ => Iff.rfl)
  clear hSW6
  have q0 : ∀ p : HW SW6, p.w.cell? ⟨b10, 0, none⟩ = some (.pointer (some ⟨gv, 0, none⟩)) := fun p => ((HSI.out _).1 p.h).1.cell 0
  have q1 : ∀ p : HW SW6, p.w.cell? ⟨gv, 6, none⟩ = some (.slice none 0 0) := fun p => ((HSI.out _).1 p.h).2.cell 6
  refine wp_region_mixH SW6 [(true, 0), (true, 1), (true, 2), (true, 3), (true, 4), (false, 5), (false, 6), (true, 7), (true, 8), (false, 9)] (by kernel_rfl) (by kernel_rfl) ((HSI.out _).2 ⟨(New.dr (New.refl W)).blk HS6.out.1, (New.dr (New.refl W)).blk HS6.out.2⟩) (fun hne => ?_)
  obtain ⟨Wd, hWd⟩ := nm W.drew
  have HND : Hid (New W Wd) := Lib.hid (by rw [hWd]; exact New.dr (New.refl W))
  have HSD : Hid (SW6 Wd) := Lib.hid ((HSI.out _).2 ⟨HND.out.blk HS6.out.1, HND.out.blk HS6.out.2⟩)
  rw [← hWd]
  clear hWd
  iterate 5 (refine mix_take (o := ⟨_, _, _, _, _, _⟩) rfl (fun K hK => ?_); go_simp; refine hK _ ?_; clear hK K)
  refine mix_act (o := ⟨_, _, _, _, _, _⟩) rfl (fun K hK => ?_) (.inl rfl)
  go_simp
  refine hK.out _ _ (fun _ => HSD.out) ?_
  clear hK K
  refine mix_act (o := ⟨_, _, _, _, _, _⟩) rfl (fun K hK => ?_) (.inl rfl)
  go_simp
  refine (delf_nil _ Wd).mono ?_
  rintro e w' ⟨rfl, rfl⟩
  go_simp
  refine hK.out _ _ (fun _ => HSD.out) ?_
  clear hK K
  iterate 2 (refine mix_take (o := ⟨_, _, _, _, _, _⟩) rfl (fun K hK => ?_); go_simp; refine hK _ ?_; clear hK K)
  clear q0 q1
  have c6 : Wd.cell? ⟨gv, 6, none⟩ = some (.slice none 0 0) := ((HSI.out _).1 HSD.out).2.cell 6
  have f6 : Wd.frozen? ⟨gv, 6, none⟩ = false := ((HSI.out _).1 HSD.out).2.frozen 6
  refine mix_act (o := ⟨_, _, _, _, _, _⟩) rfl (fun K hK => ?_) (.inl rfl)
  go_simp
  obtain ⟨Wf, hWf⟩ := nm (Wd.setCell ⟨gv, 6, none⟩ (.slice none 0 0))
  have HFf : Hid (Fr (fun k => k = gv) Wd Wf) := Lib.hid (by rw [hWf]; exact (Fr.refl (fun k => k = gv) Wd).setCell (p := ⟨gv, 6, none⟩) (fun _ => rfl) _)
  have HSf : Hid (SW6 Wf) := Lib.hid ((HSI.out _).2 ⟨((HSI.out _).1 HSD.out).1.fr HFf.out HZZ.out.2.2.2.1, by
   have := ((HSI.out _).1 HSD.out).2.set 6 (.slice none 0 0)
   rw [← hWf] at this
   exact this⟩)
  rw [← hWf]
  clear hWf c6 f6
  refine hK.out _ _ (fun _ => HSf.out) ?_
  clear hK K
  refine mix_done ?_
  have HNf : Hid (New w2 Wf) := Lib.hid ((HN2W.out.tr HND.out).fr HFf.out (fun k hk => by have := HZZ.out; omega))
  have HMf : Hid (Marks we.heap.size [D] Wf) := Lib.hid ((HM.out.new HND.out).fr HFf.out (fun D' hD' h => by
   subst hD'
   have h2 := ((HSI.out _).1 HSD.out).2
   unfold Blk at h2
   rw [h2] at h
   cases h))
  have HBf : Hid (Blk Wf b2 35 #[.pointer none] ∧ Blk Wf b3 31 #[.nilIface] ∧ StM Wf ⟨n, []⟩ bm 0 gt bn ∧ Blk Wf gv 137 #[.pointer (some ⟨gs, 0, none⟩), .int .u64 n, .map (some bm), .pointer (some ⟨gt, 0, none⟩), .int .u64 0, .int .u64 0, .slice none 0 0]) := Lib.hid ⟨(HND.out.blk HBW.out.1).fr HFf.out (by have := HZZ.out; omega), (HND.out.blk HBW.out.2.1).fr HFf.out (by have := HZZ.out; omega), (HBW.out.2.2.new HND.out).fr HFf.out (by have := HZ9.out; have := HZA.out; omega) (by have := HZ9.out; have := HZA.out; omega) (by have := HZ9.out; have := HZA.out; omega), ((HSI.out _).1 HSf.out).2⟩
  have c10 : Wf.cell? ⟨b10, 0, none⟩ = some (.pointer (some ⟨gv, 0, none⟩)) := ((HSI.out _).1 HSf.out).1.cell 0
  have c2 : Wf.cell? ⟨b2, 0, none⟩ = some (.pointer none) := HBf.out.1.cell 0
  have f2 : Wf.frozen? ⟨b2, 0, none⟩ = false := HBf.out.1.frozen 0
  have c3 : Wf.cell? ⟨b3, 0, none⟩ = some .nilIface := HBf.out.2.1.cell 0
  have f3 : Wf.frozen? ⟨b3, 0, none⟩ = false := HBf.out.2.1.frozen 0
  have n23 : b2 ≠ b3 := HZZ.out.2.2.1
  have n32 : b3 ≠ b2 := HZZ.out.2.2.1.symm
  clear hne HSf HSD HFf HND HM HS6 HN2W HBW HSI
  go_wp2_with fail
  clear c10 c2 f2 c3 f3
  obtain ⟨Wg, hWg⟩ := nm ((Wf.setCell ⟨b2, 0, none⟩ (.pointer (some ⟨gv, 0, none⟩))).setCell ⟨b3, 0, none⟩ .nilIface)
  have hFg : Fr (fun k => k = b2 ∨ k = b3) Wf Wg := by
   rw [hWg]
   exact ((Fr.refl (fun k => k = b2 ∨ k = b3) Wf).setCell (p := ⟨b2, 0, none⟩) (fun _ => .inl rfl) _).setCell (p := ⟨b3, 0, none⟩) (fun _ => .inr rfl) _
  have hb2 : Blk Wg b2 35 #[.pointer (some ⟨gv, 0, none⟩)] := by
   rw [hWg]
   exact (HBf.out.1.set 0 _).far n23 _
  have hb3 : Blk Wg b3 31 #[.nilIface] := by
   rw [hWg]
   exact (HBf.out.2.1.far n32 _).set 0 _
  rw [← hWg]
  clear hWg
  refine leaves_marks [D] Wg (HMf.out.fr hFg (fun D' hD' h => ?_)) (fun W' hS => ⟨.tuple #[.pointer (some ⟨gv, 0, none⟩), .nilIface], ?_, gv, gs, bt, bm, gt, bn, rfl, ?_⟩)
  · rcases hD' with rfl | rfl
    · have h2 := HBf.out.1
      unfold Blk at h2
      rw [h2] at h
      cases h
    · have h2 := HBf.out.2.1
      unfold Blk at h2
      rw [h2] at h
      cases h
  · have c2 : W'.cell? ⟨b2, 0, none⟩ = some (.pointer (some ⟨gv, 0, none⟩)) := Blk.cell (hS.cells _ _ hb2 rfl) 0
    have c3 : W'.cell? ⟨b3, 0, none⟩ = some .nilIface := Blk.cell (hS.cells _ _ hb3 rfl) 0
    simp [results, Tryz.results12, go_sem, c2, c3]
  · have hNg : Fr (fun j => we.heap.size ≤ j) Wg W' := Fr.below hS.below
    have hlt := HLT.out
    have hzz := HZZ.out
    have hz9 := HZ9.out
    have hza := HZA.out
    have hg := HG.out
    have hw0 := HNW0.out.size
    have hz0 := HZ.out
    have htot : Fr (fun k => k = b2 ∨ k = b3) w2 W' := (((HNf.out.toFr _).trans hFg).trans' hNg fun b hb hk => by omega)
    have hst := HS.out.fr htot HOT.out
    have hgv : Blk W' gv 137 #[.pointer (some ⟨gs, 0, none⟩), .int .u64 n, .map (some bm), .pointer (some ⟨gt, 0, none⟩), .int .u64 0, .int .u64 0, .slice none 0 0] := hS.cells _ _ (HBf.out.2.2.2.fr hFg (by omega)) rfl
    have hsm : StM W' ⟨n, []⟩ bm 0 gt bn := (HBf.out.2.2.1.fr hFg (by omega) (by omega) (by omega)).fr hNg (by omega) (by omega) (by omega)
    have hbt : bt < w2.heap.size := by
     obtain ⟨gl, gt', v', X', m', E', hX⟩ := HS.out.st
     exact hX.tb.blt
    have hbs := HBS.out
    exact ⟨hgv, hst, hsm, ⟨by omega, by omega, by omega, by omega⟩, by omega, ⟨by omega, by omega, by omega⟩, ⟨by omega, by omega, by omega⟩⟩
end Go.Proofs.YtpifnmlnhddgeaaGreatDoor
namespace Go.Proofs.YtpifnmlnhddgeaaGreatDoor
set_option linter.unusedVariables false
set_option linter.unusedSimpArgs false
set_option linter.constructorNameAsVariable false
open Go.RowKit Go.Sort Go.Maps
attribute [local go_sem] Oper.semAt_some
set_option maxHeartbeats 4000000
set_option maxRecDepth 100000
theorem vblocks_nil (w : World) : Calls Tryz.prog 19 #[.pointer none] w fun e w' => e = .returned (.int .u64 0) ∧ w = w' := by
 go_enter Tryz.func19, Tryz.ntmps19
 go_wp2_with fail
 go_ret
 exact ⟨rfl, rfl⟩
theorem vepoch_nil (w : World) : Calls Tryz.prog 14 #[.pointer none] w fun e w' => e = .returned (.int .u64 0) ∧ w = w' := by
 go_enter Tryz.func14, Tryz.ntmps14
 go_wp2_with fail
 go_ret
 exact ⟨rfl, rfl⟩
theorem vbase_nil (w : World) : Calls Tryz.prog 36 #[.pointer none] w fun e w' => e = .returned (.int .u64 0) ∧ w = w' := by
 go_enter Tryz.func36, Tryz.ntmps36
 go_wp2_with fail
 go_ret
 exact ⟨rfl, rfl⟩
theorem vlen_nil (w : World) : Calls Tryz.prog 20 #[.pointer none] w fun e w' => e = .returned (.int .i64 0) ∧ w = w' := by
 go_enter Tryz.func20, Tryz.ntmps20
 go_wp2_with fail
 go_ret
 exact ⟨rfl, rfl⟩
theorem vbroken_nil (w : World) : Calls Tryz.prog 17 #[.pointer none] w fun e w' => e = .returned (.bool false) ∧ w = w' := by
 go_enter Tryz.func17, Tryz.ntmps17
 go_wp2_with fail
 go_ret
 exact ⟨rfl, rfl⟩
theorem vstep_nil (n : Nat) (w : World) : Calls Tryz.prog 30 #[.pointer none, .int .u64 n] w fun e w' => e = .returned (.tuple #[.slice none 0 0, .slice none 0 0, errD 11]) ∧ New w w' := by
 rw [errD_n (show (11 : Int) ≠ 0 by decide)]
 go_enter Tryz.func30, Tryz.ntmps30
 go_wp2_with fail
 refine bodyPost_ret (v := .tuple #[.slice none 0 0, .slice none 0 0, .iface 99 (.int .i64 11)]) (by simp [results, Tryz.results30, go_sem]) rfl ⟨rfl, (New.refl _).al _⟩
theorem vtidy_nil (y : Nat) (w : World) : Calls Tryz.prog 32 #[.pointer none, .float .f64 y] w fun e w' => e = .returned (.tuple #[.bool false, errD 11]) ∧ w = w' := by
 rw [errD_n (show (11 : Int) ≠ 0 by decide)]
 go_enter Tryz.func32, Tryz.ntmps32
 go_wp2_with fail
 go_ret2
 exact ⟨rfl, rfl⟩
theorem vknown_nil (n : Nat) (w : World) : Calls Tryz.prog 95 #[.pointer none, .int .u64 n] w fun e w' => e = .returned (errD 11) ∧ New w w' := by
 rw [errD_n (show (11 : Int) ≠ 0 by decide)]
 go_enter Tryz.func95, Tryz.ntmps95
 go_upto_region 1 with fail
 obtain ⟨w1, hw1⟩ := nm (w.alloc (Obj.cells #[.int .u64 n] 27))
 obtain ⟨b3, hb3⟩ := nm w.heap.size
 have c3 : w1.cell? ⟨b3, 0, none⟩ = some (.int .u64 n) := by rw [hw1, hb3]; exact (Blk.new _ _ _).cell 0
 have HN1 : Hid (New w w1) := Lib.hid (by rw [hw1]; exact New.al (New.refl _) _)
 rw [← hw1, ← hb3]
 clear hw1 hb3
 go_wp2_with go_quiet (fail)
 go_ret
 exact ⟨rfl, HN1.out.dn _⟩
theorem vapply_nil (cs : Array Value) (hs : cs.size = 22) (w : World) : Calls Tryz.prog 34 #[.pointer none, .agg cs] w fun e w' => e = .returned (errD 11) ∧ New w w' := by
 rw [errD_n (show (11 : Int) ≠ 0 by decide)]
 go_enter Tryz.func34, Tryz.ntmps34
 go_wp2_with fail
 go_ret
 exact ⟨rfl, (New.refl _).al _⟩
theorem tkInfo : (Tryz.prog.info? 45).map (fun i => (i.zero, i.size)) = some (some (.agg ((Value.int .u64 0 :: .int .u64 0 :: .int .i64 0 :: .slice none 0 0 :: .slice none 0 0 :: .int .u64 0 :: List.replicate 16 (.int .u8 0)).toArray)), 22) := by kernel_rfl
def tk0 : List Value := Value.int .u64 0 :: .int .u64 0 :: .int .i64 0 :: .slice none 0 0 :: .slice none 0 0 :: .int .u64 0 :: List.replicate 16 (.int .u8 0)
theorem zTk (w : World) : (zeroValue 45).run Tryz.prog w = .ok (.agg tk0.toArray) w := (zero_of_info tkInfo).1 w
theorem vnext_nil (n : Nat) (w : World) : Calls Tryz.prog 31 #[.pointer none, .int .u64 n] w fun e w' => e = .returned (.tuple #[.agg tk0.toArray, .bool false]) ∧ New w w' := by
 have HS : Hid (tk0.toArray.size = 22) := Lib.hid rfl
 have HO : Hid (tk0.toArray.all (·.oneCell') = true) := Lib.hid (by simp [tk0, Value.oneCell'])
 have hz := zTk
 have HI : Hid ((Tryz.prog.info? 45).map (fun i => (i.zero, i.size)) = some (some (.agg tk0.toArray), 22)) := Lib.hid tkInfo
 generalize tk0.toArray = T at HS HO hz HI ⊢
 go_enter Tryz.func31, Tryz.ntmps31
 go_upto_region 1 with ((with_reducible refine atOp ⟨some 4, .alloc _, _, _, _, _⟩ ?_); refine wpList_alloc_row rfl rfl HI.out ?_; intro b4 w1 hb4 hB4 hN1; have HB4 := Lib.hid hB4; have HN1 := Lib.hid hN1; have HZ := Lib.hid hb4; clear hb4 hB4 hN1)
 go_wp2_with ((with_reducible refine atOp ⟨none, .store 45 (.tmp 4) _, _, _, _, _⟩ ?_); refine wpList_store_any rfl (.tmp 4) (.tmp 9) rfl (by rw [HS.out]; rfl) rfl rfl HB4.out (by rw [HS.out]) HO.out ?_; intro w3 hb3 hf3; have HB5 := Lib.hid hb3; have HF5 := Lib.hid hf3; clear hb3 hf3)
 refine bodyPost_ret (results_row2h rfl _ _ b4 _ _ rfl HB5.out Tryz.underlying45 rfl (by rw [HS.out]; rfl)) rfl ⟨rfl, ?_⟩
 exact (((New.refl w).al _).tr HN1.out).fr HF5.out (fun k hk => by have := HZ.out; simp at this; omega)
theorem vat_nil (n : Nat) (w : World) : Calls Tryz.prog 61 #[.pointer none, .int .u64 n] w fun e w' => e = .returned (.tuple #[.agg #[.int .u64 0, .map none, .pointer none], errD 11]) ∧ New w w' := by
 have HK := Lib.hid (fun w => vknown_nil n w)
 rw [errD_n (show (11 : Int) ≠ 0 by decide)] at HK ⊢
 refine (callsIn_wide (n := 3)).1 ?_
 refine callsIn_of_wp_marks Tryz.func61 rfl trivial ?_ rfl
 refine wpIn_wide.2 ?_
 simp only [Tryz.ntmps61, List.size_toArray, List.length_cons, List.length_nil, Nat.reduceAdd, Nat.reduceSub, Array.replicate_succ, Array.replicate_zero, List.push_toArray, List.append_toArray, List.nil_append, List.cons_append]
 go_upto_region 1 with fail
 obtain ⟨w1, hw1⟩ := nm (((w.alloc (Obj.cells #[.int .u64 n] 27)).alloc (Obj.cells #[.int .u64 0, .map none, .pointer none] 134)).alloc (Obj.cells #[.nilIface] 31))
 obtain ⟨b3, hb3⟩ := nm w.heap.size
 obtain ⟨b4, hb4⟩ := nm (w.heap.size + 1)
 obtain ⟨b5, hb5⟩ := nm (w.heap.size + 1 + 1)
 have c3 : w1.cell? ⟨b3, 0, none⟩ = some (.int .u64 n) := by rw [hw1, hb3]; exact (((Blk.new _ _ _).alloc _).alloc _).cell 0
 have HN1 : Hid (New w w1) := Lib.hid (by rw [hw1]; exact New.al (New.al (New.al (New.refl _) _) _) _)
 have HB4 : Hid (Blk w1 b4 134 #[.int .u64 0, .map none, .pointer none]) := Lib.hid (by rw [hw1, hb4]; exact (Blk.new' _ _ _ (by simp)).alloc _)
 have HB5 : Hid (Blk w1 b5 31 #[.nilIface]) := Lib.hid (by rw [hw1, hb5]; exact Blk.new' _ _ _ (by simp))
 have HZ : Hid (w.heap.size ≤ b4 ∧ b5 = b4 + 1) := Lib.hid ⟨by omega, by omega⟩
 rw [← hw1, ← hb5, ← hb4, ← hb3]
 clear hw1 hb3 hb4 hb5
 go_wp2_with fail
 refine (HK.out w1).mono ?_
 rintro e w2 ⟨rfl, hN2⟩
 have HB42 : Hid (Blk w2 b4 134 #[.int .u64 0, .map none, .pointer none]) := Lib.hid (hN2.blk HB4.out)
 have HB52 : Hid (Blk w2 b5 31 #[.nilIface]) := Lib.hid (hN2.blk HB5.out)
 have HN2 : Hid (New w w2) := Lib.hid (HN1.out.tr hN2)
 have f50 := HB52.out.frozen 0
 have c50 := HB52.out.cell 0
 clear hN2 c3 HB4 HB5
 go_wp2_with ((with_reducible refine atOp ⟨none, .store 134 (.tmp 4) _, _, _, _, _⟩ ?_); refine wpList_store_any rfl (.tmp 4) (.tmp 16) rfl (by rfl) rfl rfl HB42.out rfl (by simp [Value.oneCell']) ?_; intro w3 hb3 hf3; have HB43 := Lib.hid hb3; have HF3 := Lib.hid hf3; have HB53 : Hid (Blk w3 b5 31 #[.nilIface]) := Lib.hid (HB52.out.fr hf3 (by have := HZ.out; omega)); have f53 := HB53.out.frozen 0; have c53 := HB53.out.cell 0; clear hb3 hf3)
 obtain ⟨w4, hw4⟩ := nm (w3.setCell ⟨b5, 0, none⟩ (.iface 99 (.int .i64 11)))
 have hB5 : Blk w4 b5 31 #[.iface 99 (.int .i64 11)] := by rw [hw4]; exact HB53.out.set 0 _
 have hF4 : Fr (fun k => k = b5) w3 w4 := by rw [hw4]; exact (Fr.refl (fun k => k = b5) w3).setCell (p := ⟨b5, 0, none⟩) (fun _ => rfl) _
 have hB4 := HB43.out.fr hF4 (by have := HZ.out; omega)
 rw [← hw4]
 clear hw4 c50 f50 c53 f53
 refine leaves_marks [] _ (Marks.nil w4.heap.size _) (fun W' hS => ⟨.tuple #[.agg #[.int .u64 0, .map none, .pointer none], .iface 99 (.int .i64 11)], ?_, rfl, ?_⟩)
 · have c5 : W'.cell? ⟨b5, 0, none⟩ = some (.iface 99 (.int .i64 11)) := Blk.cell (hS.cells _ _ hB5 rfl) 0
   have hb4 : Blk W' b4 134 #[.int .u64 0, .map none, .pointer none] := hS.cells _ _ hB4 rfl
   have c40 : W'.cell? ⟨b4, 0, none⟩ = some (.int .u64 0) := hb4.cell 0
   have c41 : W'.cell? ⟨b4, 1, none⟩ = some (.map none) := hb4.cell 1
   have c42 : W'.cell? ⟨b4, 2, none⟩ = some (.pointer none) := hb4.cell 2
   simp [results, Tryz.results61, go_sem, c5, c40, c41, c42]
 · have hz := HZ.out
   have hf := (HN2.out.fr HF3.out (fun k hk => by omega)).fr hF4 (fun k hk => by omega)
   have h4 : b4 < w4.heap.size := Blk.lt hB4
   exact hf.fr (Fr.below hS.below) (fun k hk => by have := hf.size; omega)
theorem vread_nil (n : Nat) (v : Value) (w : World) : Calls Tryz.prog 23 #[.pointer none, .int .u64 n, v] w fun e w' => e = .returned (.tuple #[.slice none 0 0, .slice none 0 0, errD 11]) ∧ New w w' := by
 have HK := Lib.hid (fun w => vat_nil n w)
 rw [errD_n (show (11 : Int) ≠ 0 by decide)] at HK ⊢
 go_enter Tryz.func23, Tryz.ntmps23
 go_wp2_with fail
 refine (HK.out w).mono ?_
 rintro e w2 ⟨rfl, hN2⟩
 have HN2 := Lib.hid hN2
 clear hN2
 go_wp2_with fail
 refine bodyPost_ret (v := .tuple #[.slice none 0 0, .slice none 0 0, .iface 99 (.int .i64 11)]) (by simp [results, Tryz.results23, go_sem]) rfl ⟨rfl, (HN2.out).al _⟩
theorem vspan_nil (n a : Nat) (b : Int) (w : World) : Calls Tryz.prog 28 #[.pointer none, .int .u64 n, .int .u64 a, .int .i64 b] w fun e w' => e = .returned (.tuple #[.slice none 0 0, .agg #[.slice none 0 0, .slice none 0 0], errD 11]) ∧ New w w' := by
 have HK := Lib.hid (fun w => vat_nil n w)
 rw [errD_n (show (11 : Int) ≠ 0 by decide)] at HK ⊢
 go_enter Tryz.func28, Tryz.ntmps28
 go_upto_region 1 with fail
 obtain ⟨w1, hw1⟩ := nm (w.alloc (Obj.cells #[.slice none 0 0, .slice none 0 0] 82))
 obtain ⟨b9, hb9⟩ := nm w.heap.size
 have HB9 : Hid (Blk w1 b9 82 #[.slice none 0 0, .slice none 0 0]) := Lib.hid (by rw [hw1, hb9]; exact Blk.new _ _ _)
 have HN1 : Hid (New w w1) := Lib.hid (by rw [hw1]; exact New.al (New.refl _) _)
 have HZ := Lib.hid hb9
 rw [← hw1, ← hb9]
 clear hw1 hb9
 go_wp2_with fail
 refine (HK.out _).mono ?_
 rintro e w2 ⟨rfl, hN2⟩
 have HB92 := Lib.hid (hN2.blk HB9.out)
 have HN2 := Lib.hid (HN1.out.tr hN2)
 clear hN2
 go_upto_region 2 with fail
 obtain ⟨w3, hw3⟩ := nm (w2.alloc (Obj.cells #[.int .u64 0, .map none, .pointer none] 134))
 have HN3 : Hid (New w w3) := Lib.hid (by rw [hw3]; exact HN2.out.al _)
 have HB93 : Hid (Blk w3 b9 82 #[.slice none 0 0, .slice none 0 0]) := Lib.hid (by rw [hw3]; exact HB92.out.alloc _)
 rw [← hw3]
 clear hw3
 go_wp2_with ((with_reducible refine atOp ⟨none, .store 82 (.tmp 9) _, _, _, _, _⟩ ?_); refine wpList_store_any rfl (.tmp 9) (.tmp 22) rfl (by rfl) rfl rfl HB93.out rfl (by simp [Value.oneCell']) ?_; intro w4 hb4 hf4; have HB4 := Lib.hid hb4; have HF4 := Lib.hid hf4; clear hb4 hf4)
 have c90 : w4.cell? ⟨b9, 0, none⟩ = some (.slice none 0 0) := HB4.out.cell 0
 have c91 : w4.cell? ⟨b9, 1, none⟩ = some (.slice none 0 0) := HB4.out.cell 1
 refine bodyPost_ret (v := .tuple #[.slice none 0 0, .agg #[.slice none 0 0, .slice none 0 0], .iface 99 (.int .i64 11)]) (by simp [results, Tryz.results28, go_sem, c90, c91]) rfl ⟨rfl, HN3.out.fr HF4.out (fun k hk => by have := HZ.out; omega)⟩
theorem vroot_nil (n : Nat) (w : World) : Calls Tryz.prog 15 #[.pointer none, .int .u64 n] w fun e w' => e = .returned (.tuple #[.agg (secA (List.replicate 32 0)), errD 11]) ∧ New w w' := by
 have HK := Lib.hid (fun w => vat_nil n w)
 have hz := zH
 rw [errD_n (show (11 : Int) ≠ 0 by decide)] at HK ⊢
 have HS : Hid ((secA (List.replicate 32 0)).size = 32) := Lib.hid (by rw [secA_size]; rfl)
 have HI : Hid ((Tryz.prog.info? 50).map (fun i => (i.zero, i.size)) = some (some (.agg (secA (List.replicate 32 0))), 32)) := Lib.hid hashInfoR
 obtain ⟨HH, hHH⟩ := nm (secA (List.replicate 32 0))
 simp only [← hHH] at HS HI hz ⊢
 have HHH := Lib.hid hHH
 clear hHH
 go_enter Tryz.func15, Tryz.ntmps15
 go_upto_region 1 with ((with_reducible refine atOp ⟨some 4, .alloc _, _, _, _, _⟩ ?_); refine wpList_alloc_row rfl rfl HI.out ?_; intro b4 w1 hb4 hB4 hN1; have HB4 := Lib.hid hB4; have HN1 := Lib.hid hN1; have HZ := Lib.hid hb4; clear hb4 hB4 hN1)
 go_wp2_with fail
 refine (HK.out _).mono ?_
 rintro e w2 ⟨rfl, hN2⟩
 have HB42 := Lib.hid (hN2.blk HB4.out)
 have HN2 := Lib.hid (HN1.out.tr hN2)
 clear hN2
 go_upto_region 2 with fail
 obtain ⟨w3, hw3⟩ := nm (w2.alloc (Obj.cells #[.int .u64 0, .map none, .pointer none] 134))
 have HN3 : Hid (New w w3) := Lib.hid (by rw [hw3]; exact HN2.out.al _)
 have HB43 : Hid (Blk w3 b4 50 HH) := Lib.hid (by rw [hw3]; exact HB42.out.alloc _)
 rw [← hw3]
 clear hw3 HB42 HB4
 go_wp2_with ((with_reducible refine atOp ⟨none, .store 50 (.tmp 4) _, _, _, _, _⟩ ?_); refine wpList_store_any rfl (.tmp 4) (.tmp 16) rfl (by rw [HS.out]; rfl) rfl rfl HB43.out rfl (by rw [HHH.out]; exact secA_one _) ?_; intro w4 hb4 hf4; have HB4 := Lib.hid hb4; have HF4 := Lib.hid hf4; clear hb4 hf4)
 refine bodyPost_ret (results_row2h rfl _ _ b4 _ _ rfl HB4.out Tryz.underlying50 rfl (by rw [HS.out]; rfl)) rfl ⟨rfl, HN3.out.fr HF4.out (fun k hk => by have := HZ.out; omega)⟩
theorem vforget_nil (n : Nat) (w : World) : Calls Tryz.prog 33 #[.pointer none, .int .u64 n] w fun e w' => e = .returned (errD 11) ∧ New w w' := by
 have HK := Lib.hid (fun w => vknown_nil n w)
 rw [errD_n (show (11 : Int) ≠ 0 by decide)] at HK ⊢
 refine (callsIn_wide (n := 3)).1 ?_
 refine callsIn_of_wp_marks Tryz.func33 rfl trivial ?_ rfl
 refine wpIn_wide.2 ?_
 simp only [Tryz.ntmps33, List.size_toArray, List.length_cons, List.length_nil, Nat.reduceAdd, Nat.reduceSub, Array.replicate_succ, Array.replicate_zero, List.push_toArray, List.append_toArray, List.nil_append, List.cons_append]
 go_upto_region 1 with fail
 obtain ⟨w1, hw1⟩ := nm ((w.alloc (Obj.cells #[.pointer none] 35)).alloc (Obj.cells #[.nilIface] 31))
 obtain ⟨b2, hb2⟩ := nm w.heap.size
 obtain ⟨b4, hb4⟩ := nm (w.heap.size + 1)
 have HB2 : Hid (Blk w1 b2 35 #[.pointer none]) := Lib.hid (by rw [hw1, hb2]; exact (Blk.new _ _ _).alloc _)
 have HB4 : Hid (Blk w1 b4 31 #[.nilIface]) := Lib.hid (by rw [hw1, hb4]; exact Blk.new' _ _ _ (by simp))
 have HN1 : Hid (New w w1) := Lib.hid (by rw [hw1]; exact New.al (New.al (New.refl _) _) _)
 have HZ : Hid (b2 = w.heap.size ∧ b4 = w.heap.size + 1) := Lib.hid ⟨hb2, hb4⟩
 have c2 := HB2.out.cell 0
 rw [← hw1, ← hb4, ← hb2]
 clear hw1 hb2 hb4
 go_wp2_with fail
 refine (HK.out w1).mono ?_
 rintro e w2 ⟨rfl, hN2⟩
 have HN2 := Lib.hid (HN1.out.tr hN2)
 have c4 := (hN2.blk HB4.out).cell 0
 have f4 := (hN2.blk HB4.out).frozen 0
 have HB42 := Lib.hid (hN2.blk HB4.out)
 clear c2
 go_wp2_with fail
 obtain ⟨w4, hw4⟩ := nm (w2.setCell ⟨b4, 0, none⟩ (.iface 99 (.int .i64 11)))
 have hB4 : Blk w4 b4 31 #[.iface 99 (.int .i64 11)] := by rw [hw4]; exact HB42.out.set 0 _
 have hF4 : Fr (fun k => k = b4) w2 w4 := by rw [hw4]; exact (Fr.refl (fun k => k = b4) w2).setCell (p := ⟨b4, 0, none⟩) (fun _ => rfl) _
 rw [← hw4]
 clear hw4 c4 f4
 refine leaves_marks [] _ (Marks.nil w4.heap.size _) (fun W' hS => ⟨.iface 99 (.int .i64 11), ?_, rfl, ?_⟩)
 · have c5 : W'.cell? ⟨b4, 0, none⟩ = some (.iface 99 (.int .i64 11)) := Blk.cell (hS.cells _ _ hB4 rfl) 0
   simp [results, Tryz.results33, go_sem, c5]
 · have hz := HZ.out
   have hf := HN2.out.fr hF4 (fun k hk => by omega)
   exact hf.fr (Fr.below hS.below) (fun k hk => by have := hf.size; omega)
end Go.Proofs.YtpifnmlnhddgeaaGreatDoor
