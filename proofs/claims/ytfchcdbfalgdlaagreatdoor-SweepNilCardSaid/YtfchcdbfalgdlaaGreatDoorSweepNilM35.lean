/- Texts of one proof, one behind the other: SwG, LkM, SwH, SwI, ShL, SwJ. No condition but each one's own. -/
import Derived.Test.YtfchcdbfalgdlaaGreatDoorSweepNilM33
import Derived.Test.YtfchcdbfalgdlaaGreatDoorSweepNilM34
import Derived.Test.YtfchcdbfalgdlaaGreatDoorSweepNilM29
import Derived.Test.YtfchcdbfalgdlaaGreatDoorSweepNilM18
import Derived.Test.YtfchcdbfalgdlaaGreatDoorSweepNilM23
import Derived.Test.YtfchcdbfalgdlaaGreatDoorRows
import Derived.Test.YtfchcdbfalgdlaaGreatDoorSweepNilM6
import Derived.Test.YtfchcdbfalgdlaaGreatDoorSweepNilM4
import Derived.Test.YtfchcdbfalgdlaaGreatDoorSweepNilM3
import Derived.Test.YtfchcdbfalgdlaaGreatDoorSweepNilM5
import Derived.Test.YtfchcdbfalgdlaaGreatDoorSweepNilM7
import Derived.OpenShut
import Derived.SevenTiedAt
import Derived.Stop.Joined
namespace Go.Proofs.YtfchcdbfalgdlaaGreatDoor
set_option linter.unusedVariables false
set_option linter.unusedSimpArgs false
set_option linter.constructorNameAsVariable false
open Go.RowKit Go.Sort Go.Maps
section
variable {W w w' : World} {gs gd bs bf bt mm : Nat} {s : SW}
theorem garbage_nil (w : World) : Calls Tryz.prog 12 #[.pointer none] w fun e w' => e = .returned (.float .f64 9221120237041090561) ∧ w = w' := by
 have HN := Lib.hid (nan_any w)
 go_enter Tryz.func12, Tryz.ntmps12
 go_wp2_with fail
 refine HN.out.mono ?_
 rintro e w1 ⟨rfl, rfl⟩
 go_wp2_with fail
 go_ret
 exact ⟨rfl, rfl⟩
theorem tidy_nil (y : Nat) (w : World) : Calls Tryz.prog 10 #[.pointer none, .float .f64 y] w fun e w' => e = .returned (.tuple #[.bool false, errD 11]) ∧ w = w' := by
 rw [errD_n (by decide)]
 go_enter Tryz.func10, Tryz.ntmps10
 go_wp2_with fail
 go_ret2
 exact ⟨rfl, rfl⟩
theorem table_nil (w : World) : Calls Tryz.prog 17 #[.pointer none] w fun e w' => e = .returned (.pointer none) ∧ w = w' := by
 go_enter Tryz.func17, Tryz.ntmps17
 go_wp2_with fail
 go_ret
 exact ⟨rfl, rfl⟩
theorem sget_nil (A : Option Addr) (n c : Nat) (w : World) : Calls Tryz.prog 11 #[.pointer none, .slice A n c] w fun e w' => e = .returned (.tuple #[.slice none 0 0, .bool false]) ∧ w = w' := by
 go_enter Tryz.func11, Tryz.ntmps11
 go_wp2_with fail
 go_ret2
 exact ⟨rfl, rfl⟩
theorem sgen_nil (w : World) : Calls Tryz.prog 18 #[.pointer none] w fun e w' => e = .returned (.int .u32 0) ∧ w = w' := by
 go_enter Tryz.func18, Tryz.ntmps18
 go_wp2_with fail
 go_ret
 exact ⟨rfl, rfl⟩
theorem free_nil (w : World) : Calls Tryz.prog 19 #[.pointer none] w fun e w' => e = .returned (.int .i64 0) ∧ w = w' := by
 go_enter Tryz.func19, Tryz.ntmps19
 go_wp2_with fail
 go_ret
 exact ⟨rfl, rfl⟩
theorem broken_nil (w : World) : Calls Tryz.prog 20 #[.pointer none] w fun e w' => e = .returned (.bool false) ∧ w = w' := by
 go_enter Tryz.func20, Tryz.ntmps20
 go_wp2_with fail
 go_ret
 exact ⟨rfl, rfl⟩
theorem sget_any (h : StIn W w gs gd bs bf bt s mm) {q : Nat → Prop} (A : Option Addr) (n c : Nat) (xs : List Int) (hR : Rd q w 1 A n (u8s xs)) (hb : Byt xs) (hn : n ≤ 1000000) : Calls Tryz.prog 11 #[.pointer (some ⟨gs, 0, none⟩), .slice A n c] w fun e w' => (∃ E : Tab, cont E = s.t ∧ ∃ A' c', e = .returned (.tuple #[.slice A' (tval E xs).n c', .bool (E.lookup xs).isSome]) ∧ w'.ownsRow w.heap.size 5 1 (.slice A' (tval E xs).n c') (tval E xs).n (u8s (tval E xs).xs)) ∧ New w w' := by
 obtain ⟨gl, gt, v, X, m, E, h⟩ := h
 have c2 := h.c2
 have HG := Lib.hid (get_any_l19 h.tb A n c xs hR hb hn)
 have HE := Lib.hid h.ct
 clear h hR hb hn
 go_enter Tryz.func11, Tryz.ntmps11
 go_wp2_with fail
 refine HG.out.mono ?_
 rintro e w1 ⟨A', c', rfl, hO, hN⟩
 go_wp2_with fail
 go_ret2
 exact ⟨⟨E, HE.out, A', c', rfl, hO⟩, hN⟩
set_option maxHeartbeats 4000000
set_option maxRecDepth 100000
end
end Go.Proofs.YtfchcdbfalgdlaaGreatDoor
namespace Go.Proofs.YtfchcdbfalgdlaaGreatDoor
set_option linter.unusedVariables false
set_option linter.unusedSimpArgs false
set_option linter.constructorNameAsVariable false
open Go.RowKit Go.Sort Go.Maps
def Dkl (W w : World) (gd : Nat) (p : DP) : Prop := ∃ bs bf v, Dk w W.heap.size gd bs bf v p ∧ New W w
section
variable {W w w' : World} {gd gl : Nat} {p : DP} {l : LG}
theorem dnew_l (hN : New W w) (n : Nat) (h1 : 1 ≤ n) (h2 : n ≤ 16384) : Calls Tryz.prog 22 #[.int .i64 n] w fun e w' => ∃ g, e = .returned (.tuple #[.pointer (some ⟨g, 0, none⟩), .nilIface]) ∧ Dkl W w' g (DP.new n) ∧ New w w' :=
 (new_ok n w W.heap.size hN.size h1 h2).mono fun e w' ⟨he, hD, hN'⟩ => ⟨_, he, ⟨_, _, _, hD, hN.tr hN'⟩, hN'⟩
end
end Go.Proofs.YtfchcdbfalgdlaaGreatDoor
namespace Go.Proofs.YtfchcdbfalgdlaaGreatDoor
set_option linter.unusedVariables false
set_option linter.unusedSimpArgs false
set_option linter.constructorNameAsVariable false
open Go.RowKit Go.Sort Go.Maps
theorem runs_len {p : DP} (hp : p.Ok) (l : LG) : ∀ k, (runs p l k).2.length + l.used ≤ (runs p l k).1.used
 | 0 => by show 0 + l.used ≤ l.used; omega
 | k + 1 => by
  have ih := runs_len hp l k
  cases hn : nextL p (runs p l k).1 with
  | none => rw [runs_none hn 1]; exact ih
  | some b =>
   have := step_used hp hn
   rw [runs_some hn]
   simp only [List.length_append, List.length_singleton]
   omega
theorem runL_len {p : DP} (hp : p.Ok) {n g : Nat} (h : 4 ≤ n) (hz : p.size = n) (hg : g < 4294967296) : (runL p (log0 n g)).2.length ≤ hlf n := by
 have h1 := runs_len hp (log0 n g) ((log0 n g).size + 1)
 have h2 := runs_ok hp (l := log0 n g) (n := n) (lg0_ok (hlf_fit (g := g) h).2.1 hg) ((log0 n g).size + 1)
 have h3 := h2.1.used
 rw [h2.2.1] at h3
 have h4 : (log0 n g).used = 0 := rfl
 have h5 : (log0 n g).size = hlf n := rfl
 show (runs p (log0 n g) _).2.length ≤ _
 omega
structure Sto (W w : World) (gs gd bs bf bt : Nat) (s : SW) (K : List (List Int)) (mm : Nat) : Prop where
 st : StIn W w gs gd bs bf bt s mm
 ok : SOk s K
 nw : New W w
section
variable {W w w' : World} {gs gd bs bf bt mm : Nat} {s : SW} {K : List (List Int)} {v : Value} {p : DP}
theorem Sto.new (h : Sto W w gs gd bs bf bt s K mm) (hN : New w w') : Sto W w' gs gd bs bf bt s K mm := ⟨h.st.new hN, h.ok, h.nw.tr hN⟩
theorem fmt_l (hD : Dk w W.heap.size gd bs bf v p) (hN : New W w) (hL : ShaIn 4 2 W) (hu : Up p) (h4 : 4 ≤ p.size) :
    Calls Tryz.prog 14 #[.pointer (some ⟨gd, 0, none⟩)] w fun e w' => e = .returned .nilIface ∧ (∃ v', Dk w' W.heap.size gd bs bf v' (fmtS p)) ∧ Kps (Mps bs bf bs) W w w' :=
 (format_any hD hN hL hu h4).mono fun e w' ⟨he, v', hT⟩ => ⟨he, ⟨v', hT.dk⟩, Kps.of hT.fr (dk_cls hD (.inl rfl) (.inr (.inl rfl)))⟩
theorem open_s (hD : Dk w W.heap.size gd bs bf v p) (hN : New W w) (hL : ShaIn 4 2 W) (hu : Up p) (h4 : 4 ≤ p.size) (hz : p.size ≤ 3000) (ho : opnS p = (s.p, 0, some s)) (hs : SOk s K) :
    Calls Tryz.prog 9 #[.pointer (some ⟨gd, 0, none⟩)] w fun e w' => ∃ gs bt, e = .returned (.tuple #[.pointer (some ⟨gs, 0, none⟩), .nilIface]) ∧ Sto W w' gs gd bs bf bt s K (600 * hlf p.size) ∧ w.heap.size ≤ gs ∧ w.heap.size ≤ bt ∧ Kps (Mps bs bf bs) W w w' := by
 have hr : (runL p (log0 p.size (cnt p))).2.length ≤ hlf p.size := runL_len hD.ok h4 rfl (by rw [← cntN_2]; exact cntN_lt hD.ok 2)
 have hh : hlf p.size ≤ 1600 := by unfold hlf; omega
 refine (sopen_any hD hN hL hu h4 (by omega)).mono fun e w' h => ?_
 unfold OpSays at h
 rw [ho] at h
 obtain ⟨gs, bt, he, hst, h1, h2, hK⟩ := h
 exact ⟨gs, bt, he, ⟨hst.up (Nat.mul_le_mul_left _ hr), hs, hK.nw hN⟩, h1, h2, hK⟩
theorem cut_s (h : Sto W w gs gd bs bf bt s K mm) {q : Nat → Prop} (A : Option Addr) (n c : Nat) (keep : List Bool) (hR : Rd q w 1 A n (bools keep)) (hn : n ≤ maxLen) (hq : ∀ k, q k → k < W.heap.size) :
    Calls Tryz.prog 25 #[.pointer (some ⟨gd, 0, none⟩), .slice A n c] w fun e w' => e = .returned (.tuple #[]) ∧ (∃ v', Dk w' W.heap.size gd bs bf v' (s.p.cut keep)) ∧ Kps (Mps bs bf bs) W w w' := by
 obtain ⟨gl, gt, v, X, m, E, hX⟩ := h.st
 refine (cut_in hX.dk A n c keep hR hn (fun k hk e => by have h3 := hq k hk; have h4 := (hX.dk.ours bs (.inr (.inl rfl))).1; omega)).mono fun e w' ⟨he, hD, hF⟩ => ?_
 exact ⟨he, ⟨_, hD⟩, Kps.of hF (fun k hk => dk_cls hX.dk (.inl rfl) (.inr (.inl rfl)) k (by rcases hk with h | h | h <;> simp [DkOurs, h]))⟩
theorem up_cut (p : DP) (keep : List Bool) : Up (p.cut keep) := ⟨rfl, rfl⟩
end
theorem opn_up {p : DP} {s : SW} (hu : Up p) (hok : p.Ok) (h4 : 4 ≤ p.size) (h : opnS p = (s.p, 0, some s)) : Up s.p := by
 unfold opnS at h
 have hg : cnt p < 4294967296 := by rw [← cntN_2]; exact cntN_lt hok 2
 have hr := (runs_ok hok (l := log0 p.size (cnt p)) (lg0_ok (hlf_fit h4).2.1 hg) ((log0 p.size (cnt p)).size + 1)).1
 have hw := (hu.wipe (l := (runL p (log0 p.size (cnt p))).1) hr.fit hr.used).2.1
 rw [if_neg (by omega)] at h
 split at h
 · simp at h
 · simp only at h
   split at h
   · injection h with h1 h2
     rw [← h1]
     exact hw
   · simp at h
section
variable {p : DP} {l : LG}
theorem Up.writeN (h : Up p) (b : List Int) (hf : l.first + l.size ≤ p.size) : ∀ k, l.used + k ≤ l.size → (writeN p l b k).2 = 0 ∧ Up (writeN p l b k).1 ∧ (writeN p l b k).1.size = p.size
 | 0, _ => ⟨rfl, h, rfl⟩
 | k + 1, hk => by
  obtain ⟨h1, h2, h3⟩ := h.writeN b hf k (by omega)
  rw [writeN_go h1]
  exact ⟨h2.wcode (by omega) (by rw [h3]; omega), h2.write _ _, (DP.doWrite_size _ _ _).trans h3⟩
end
def ch1 : PC := ⟨[97], [49], false⟩
theorem put1_len : (putP [ch1]).length = 9 := rfl
theorem commit1 {s : SW} (h : SOk s []) (hu : Up s.p) (hb : s.broken = false) (hg : s.gen + 1 < 4294967296) (ht : s.t.Perm []) : ∃ K', SOk (cmtS s [ch1]).1 K' ∧ (cmtS s [ch1]).2 = 0 ∧ (cmtS s [ch1]).1.t = [([97], [49])] ∧ (cmtS s [ch1]).1.p.size = s.p.size := by
 have hbt : ∀ c ∈ [ch1], PcB c := fun c hc => by
  rw [List.mem_singleton.1 hc]
  exact ⟨fun x hx => by simp [ch1] at hx; omega, fun x hx => by simp [ch1] at hx; omega⟩
 have hz : (cmtS s [ch1]).2 = 0 := by
  have hl : s.l = log0 s.p.size s.gen := by
   have := h.log
   rw [h.lb hb] at this
   exact this
  have hfit := hlf_fit (g := s.gen) h.n4
  have hw := hu.writeN (l := s.l) (putP [ch1]) (by rw [hl]; exact hfit.2.1) 1 (by rw [hl]; exact hfit.1)
  have ha : appL s.p s.l (putP [ch1]) = ((writeN s.p s.l (putP [ch1]) 1).1, s.l.step (putP [ch1]), 0) := by
   have hn : secN (putP [ch1]).length = 1 := by rw [put1_len]; rfl
   unfold appL
   rw [hn, if_neg (by decide), if_neg (by rw [h.lb hb]; decide), if_neg (by rw [hl]; have := hfit.1; show ¬ hlf s.p.size - 0 < 1; omega)]
   simp only
   rw [if_neg (by rw [hw.1]; simp)]
  have hadd : (addS s (putP [ch1])) = ({ s with p := (writeN s.p s.l (putP [ch1]) 1).1, l := s.l.step (putP [ch1]) }, 0) := by
   unfold addS
   rw [ha, if_pos (show (0 : Int) ≠ 8 by decide)]
  unfold cmtS
  rw [if_neg (by decide), if_neg (by rw [hb]; decide), if_neg (by rw [put1_len]; decide)]
  simp only
  rw [hadd, if_neg (show ¬ (0 : Int) ≠ 0 by decide)]
  simp only
  rw [if_neg (by rw [hw.2.1.scode]; decide)]
 obtain ⟨K', k1, k2, -, k3⟩ := h.commit hbt hg
 refine ⟨K', k1, hz, ?_, k2⟩
 rcases k3 with ⟨-, k4, -⟩ | ⟨k4, -⟩
 · rw [k4, List.Perm.eq_nil ht]
   rfl
 · exact absurd hz k4
end Go.Proofs.YtfchcdbfalgdlaaGreatDoor
namespace Go.Proofs.YtfchcdbfalgdlaaGreatDoor
set_option linter.unusedVariables false
set_option linter.unusedSimpArgs false
set_option linter.constructorNameAsVariable false
open Go.RowKit Go.Sort Go.Maps
set_option maxHeartbeats 4000000
set_option maxRecDepth 100000
theorem salive_any (W : World) (hL : ShaIn 4 2 W) : Calls Tryz.prog 7 #[] W fun e w' => e = .returned (.bool true) ∧ New W w' := by
 have HL := Lib.hid hL
 obtain ⟨hF1, hF2, hF3⟩ := fmt_ok (p := DP.new 20) (Clean.new (n := 20) (by decide) (by decide)).ok (Up.new 20) (by decide)
 obtain ⟨s1, o1, o2, o3, o4, o5, o6⟩ := hF1.open_ []
 rw [hF3] at o1
 have HO1 := Lib.hid (And.intro o1 (And.intro o2 (And.intro o3 (And.intro o4 (And.intro o5 o6)))))
 have HFS := Lib.hid (And.intro hF2 (fmt_up (Up.new 20) (p := DP.new 20) (by decide)))
 clear hL hF1 hF2 hF3 o1 o2 o3 o4 o5 o6
 have kc := fun (w : World) (C : Array Value) (n c : Nat) => Lib.run_convert_bytes_const (P := Tryz.prog) w 33 5 C n c Tryz.underlying33 Tryz.underlying5
 go_enter Tryz.func7, Tryz.ntmps7
 go_wp2_with fail
 refine (dnew_l (New.refl W) 20 (by decide) (by decide)).mono ?_
 rintro e w1 ⟨gd, rfl, ⟨bs, bf, v1, hD1, hN1⟩, -⟩
 have HD1 := Lib.hid hD1
 have HN1 := Lib.hid hN1
 clear hD1 hN1
 go_wp2_with fail
 refine (fmt_l HD1.out HN1.out HL.out (Up.new 20) (by decide)).mono ?_
 rintro e w2 ⟨rfl, ⟨v2, hD2⟩, hK2⟩
 have HD2 := Lib.hid hD2
 have HN2 : Hid (New W w2) := Lib.hid (hK2.nw HN1.out)
 clear hD2 hK2 HD1 HN1
 go_wp2_with fail
 refine (open_s HD2.out HN2.out HL.out HFS.out.2.1 (by rw [HFS.out.1]; decide) (by rw [HFS.out.1]; decide) HO1.out.1 HO1.out.2.1).mono ?_
 rintro e w3 ⟨gs, bt, rfl, hS3, -, -, -⟩
 have HS3 := Lib.hid hS3
 have HD2K := Lib.hid HD2.out.ok
 clear hS3 HD2 HN2
 have kc2 : ∀ (w : World) (o : Obj) (C : Array Value) (n c : Nat), (convert 33 33 (.slice (some ⟨w.heap.size + 1, 0, none⟩) n c)).run Tryz.prog ((w.alloc o).alloc (.cells C 5)) = .ok (.slice (some ⟨w.heap.size + 1, 0, none⟩) n c) ((w.alloc o).alloc (.cells C 5 (C.size, C.size + 1))) := fun w o C n c => by
  have := kc (w.alloc o) C n c
  simpa using this
 go_wp2_with fail
 refine calls_world fun w4 hw4 => ?_
 have HN4 : Hid (New w3 w4) := Lib.hid (by rw [hw4.out]; exact (New.refl _).al2 _ _ |>.al _)
 obtain ⟨q, hq⟩ := nm (fun k => IsT 5 w4 k ∨ IsT 92 w4 k)
 have HA4 : Hid (Rd q w4 1 (some ⟨w3.heap.size, 0, none⟩) 1 (u8s [97])) := Lib.hid (lit_rd (by rw [hw4.out]; exact New.al (New.al (New.refl _) _) _) (by rw [hq]; exact .inl ⟨_, _, by rw [hw4.out]; exact (Below.heap_alloc _ _ _ (by simp; omega)).trans ((Below.heap_alloc _ _ _ (by simp)).trans (World.alloc_heap_new w3 _))⟩))
 have HV4 : Hid (Rd q w4 1 (some ⟨w3.heap.size + 1, 0, none⟩) 1 (u8s [49])) := Lib.hid (by
  have := lit_rd (P := q) (x := 49) (w := w3.alloc (.cells #[.int .u8 97] 5 (1, 2))) (W := w4) (by rw [hw4.out]; exact New.al (New.refl _) _) (by rw [hq]; exact .inl ⟨_, _, by rw [hw4.out]; exact (Below.heap_alloc _ _ _ (by simp)).trans (World.alloc_heap_new _ _)⟩)
  simpa using this)
 have HB4 : Hid (Blk w4 (w3.heap.size + 1 + 1) 92 #[.slice (some ⟨w3.heap.size, 0, none⟩) 1 1, .slice (some ⟨w3.heap.size + 1, 0, none⟩) 1 1, .bool false]) := Lib.hid (by rw [hw4.out]; exact Blk.new' _ _ _ (by simp))
 have HC4 : Hid (Rd q w4 3 (some ⟨w3.heap.size + 1 + 1, 0, none⟩) 1 [.slice (some ⟨w3.heap.size, 0, none⟩) 1 1, .slice (some ⟨w3.heap.size + 1, 0, none⟩) 1 1, .bool false]) := Lib.hid (Rd.ofBlk HB4.out 3 1 rfl (by rw [hq]; exact .inr ⟨_, _, HB4.out⟩))
 have HQ : Hid (Kept1 W w4 q) := Lib.hid (by rw [hq]; exact fun k hk => .inr hk)
 have HCM := Lib.hid (commit1 HS3.out.ok (opn_up HFS.out.2.1 HD2K.out (by rw [HFS.out.1]; decide) HO1.out.1) HO1.out.2.2.2.1 (by rw [HO1.out.2.2.1]; decide) HO1.out.2.2.2.2.1)
 clear hw4 hq kc kc2
 refine (commit_any (HS3.out.new HN4.out).st (HS3.out.new HN4.out).nw HL.out (by rw [HFS.out.1]; decide) HS3.out.ok.tok (some ⟨w3.heap.size + 1 + 1, 0, none⟩) 1 1 [⟨⟨some ⟨w3.heap.size, 0, none⟩, 1, 1, [97]⟩, ⟨some ⟨w3.heap.size + 1, 0, none⟩, 1, 1, [49]⟩, false⟩] HC4.out rfl (fun c hc => by
  rw [List.mem_singleton] at hc
  subst hc
  exact ⟨⟨HA4.out, fun x hx => by simp at hx; omega⟩, ⟨HV4.out, fun x hx => by simp at hx; omega⟩⟩) HQ.out (by decide) (fun c hc => by
  rw [List.mem_singleton] at hc
  subst hc
  exact ⟨(show 1 ≤ maxLen by decide), (show 1 ≤ maxLen by decide)⟩)).mono ?_
 rintro e w5 ⟨rfl, hS5, hK5⟩
 have hpc : ([⟨⟨some ⟨w3.heap.size, 0, none⟩, 1, 1, [97]⟩, ⟨some ⟨w3.heap.size + 1, 0, none⟩, 1, 1, [49]⟩, false⟩] : List Ch).map pcOf = [ch1] := rfl
 rw [hpc] at hS5 ⊢
 obtain ⟨K5, hk5, hz5, ht5, hp5⟩ := HCM.out
 rw [hz5, errD_0]
 obtain ⟨s5, hs5⟩ := nm (cmtS s1 [ch1]).1
 rw [← hs5] at hS5 hk5 ht5 hp5
 have HS5 : Hid (Sto W w5 gs gd bs bf bt s5 K5 (600 * hlf (fmtS (DP.new 20)).size + 600)) := Lib.hid ⟨hS5, hk5, hK5.nw (HS3.out.new HN4.out).nw⟩
 obtain ⟨s6, o1, o2, o3, o4, o5, o6⟩ := hk5.open_ []
 have HO6 := Lib.hid (And.intro o1 (And.intro o2 (And.intro (o5.trans (by rw [ht5])) o6)))
 have HZ5 : Hid (s5.p.size = 20) := Lib.hid (by rw [hp5, HO1.out.2.2.2.2.2, HFS.out.1]; rfl)
 clear hS5 hK5 hpc hk5 hz5 ht5 hp5 hs5 o1 o2 o3 o4 o5 o6 HCM HS3 HA4 HV4 HB4 HC4 HQ
 go_wp2_with fail
 refine (cut_s HS5.out none 0 0 [] Rd.nil (by decide) (fun k (hk : False) => hk.elim)).mono ?_
 rintro e w6 ⟨rfl, ⟨v6, hD6⟩, hK6⟩
 have HD6 := Lib.hid hD6
 have HN6 : Hid (New W w6) := Lib.hid (hK6.nw HS5.out.nw)
 clear hD6 hK6
 go_wp2_with fail
 refine (open_s HD6.out HN6.out HL.out (up_cut _ _) (by show 4 ≤ s5.p.size; rw [HZ5.out]; decide) (by show s5.p.size ≤ 3000; rw [HZ5.out]; decide) HO6.out.1 HO6.out.2.1).mono ?_
 rintro e w7 ⟨gs7, bt7, rfl, hS7, -, -, -⟩
 have HS7 := Lib.hid hS7
 clear hS7 HD6 HN6 HS5
 have kc := fun (w : World) (C : Array Value) (n c : Nat) => Lib.run_convert_bytes_const (P := Tryz.prog) w 33 5 C n c Tryz.underlying33 Tryz.underlying5
 go_wp2_with fail
 clear kc
 refine calls_world fun w8 hw8 => ?_
 have HN8 : Hid (New w7 w8) := Lib.hid (by rw [hw8.out]; exact (New.refl _).al _)
 have HA8 : Hid (Rd (fun _ => True) w8 1 (some ⟨w7.heap.size, 0, none⟩) 1 (u8s [97])) := Lib.hid (lit_rd (by rw [hw8.out]; exact New.refl _) trivial)
 clear hw8
 refine (sget_any (HS7.out.new HN8.out).st (some ⟨w7.heap.size, 0, none⟩) 1 1 [97] HA8.out (fun x hx => by simp at hx; omega) (by decide)).mono ?_
 rintro e w9 ⟨⟨E, hE, A', c', rfl, hO9⟩, hN9⟩
 have hct : cont E = [([97], [49])] := by rw [hE]; exact List.perm_singleton.1 HO6.out.2.2.1
 have hlk : (E.lookup [97]).isSome = true ∧ (tval E [97]).xs = [49] := by
  cases E with
  | nil => simp [cont] at hct
  | cons e E =>
   simp only [cont, List.map_cons, List.cons.injEq, Prod.mk.injEq] at hct
   obtain ⟨⟨h1, h2⟩, -⟩ := hct
   have hl : (e :: E).lookup [97] = some e.2 := by
    rw [← h1]
    obtain ⟨a, b⟩ := e
    simp
   rw [hl]
   refine ⟨rfl, ?_⟩
   unfold tval
   rw [hl]
   exact h2
 have hRv := Rd.own hO9 rfl
 rw [hlk.2] at hRv
 rw [hlk.1]
 have hcv := run_conv (c := c') hRv
 have hst : strOfNums [49] = ⟨#[49]⟩ := rfl
 rw [hst] at hcv
 have HN9 : Hid (New W w9) := Lib.hid ((HS7.out.nw.tr HN8.out).tr hN9)
 clear hE hct hlk hO9 hRv hN9 hst
 go_wp2_with fail
 go_ret
 exact ⟨rfl, HN9.out⟩
end Go.Proofs.YtfchcdbfalgdlaaGreatDoor
namespace Go.Proofs.YtfchcdbfalgdlaaGreatDoor
set_option linter.unusedVariables false
set_option linter.unusedSimpArgs false
set_option linter.constructorNameAsVariable false
open Go.RowKit Go.Sort Go.ChangeShapes Go.WideShapes Go.ChangeAt
theorem laid_u32 {W : World} {n : String} {d : DataW Unit} {r : List (String × DataW Unit)} {ps : List MemPlace} {g t N : Nat} (L : List Int) (h : DataW.LaidVars Tryz.prog W ((n, d) :: r) ps) (hg : Tryz.prog.globalNamed n = some g) (ht : (Tryz.prog.globals[g]?).map (·.type) = some t) (hu : Tryz.prog.underlying t = some (.array N 44)) (hd : d = .agg (L.map fun x => .lit (.int .u32 x))) (hl : L.length = N) :
    (∀ j, j < N → W.cell? ⟨g, j, none⟩ = some (.int .u32 (at_ L j))) ∧ ∃ ps', DataW.LaidVars Tryz.prog W r ps' := by
 obtain ⟨g', t', cs, fuel, p, q, hg', ht', hv, hd', hr, _⟩ := h
 obtain rfl := Option.some.inj (hg.symm.trans hg')
 obtain rfl := Option.some.inj (ht.symm.trans ht')
 refine ⟨fun j hj => ?_, _, hr⟩
 obtain ⟨xs, m, _, ex, _, hxl, hel⟩ := DataW.trod_array hu hd'
 have c5 : Tryz.prog.cellsOf 44 = 1 := by kernel_rfl
 have hE := hel j hj
 rw [c5, Nat.mul_one, List.getElem?_eq_getElem (by omega)] at hE
 obtain ⟨z, e1, e2, _⟩ := DataW.trod_int Tryz.underlying44 hE
 have e3 : (xs.map (·.1)) = L.map fun n => .lit (.int .u32 n) := by
  have h0 := (Prod.mk.inj ex).1
  rw [hd] at h0
  exact (DataW.agg.inj h0).symm
 have e4 : (xs.map (·.1))[j]? = (L.map fun n => (DataW.lit (.int .u32 n) : DataW Unit))[j]? := by rw [e3]
 rw [List.getElem?_map, List.getElem?_map, List.getElem?_eq_getElem (by omega : j < xs.length), List.getElem?_eq_getElem (by omega : j < L.length), e2] at e4
 have hz : z = at_ L j := by
  simp only [Option.map_some, Option.some.injEq, DataW.lit.injEq, Lit.int.injEq, true_and] at e4
  unfold at_
  rw [e4, List.getD, List.getElem?_eq_getElem (by omega : j < L.length)]
  rfl
 rw [World.var?_cell hg hv j, ← hz]
 have : cs.toList[j]? = some (.int .u32 z) := by
  have h0 : ((cs.toList.drop j).take 1)[0]? = some (.int .u32 z) := by rw [e1]; rfl
  simpa using h0
 simpa using this
theorem range_iH {W : World} {g : Nat} (h : ∀ j, j < 8 → W.cell? ⟨g, j, none⟩ = some (.int .u32 (at_ iH.list j))) : W.rangeAt g 0 iH.arr.toList := fun j v hv => by
 have hj : j < 8 := by
  have := (List.getElem?_eq_some_iff.1 hv).1
  exact this
 rw [Nat.zero_add, h j hj, ← hv]
 rcases (by omega : j = 0 ∨ j = 1 ∨ j = 2 ∨ j = 3 ∨ j = 4 ∨ j = 5 ∨ j = 6 ∨ j = 7) with rfl | rfl | rfl | rfl | rfl | rfl | rfl | rfl <;> rfl
theorem sha_live {W : World} (h : laidMetH Tryz.prog [("entrust/sha.constants", Rows.laid_entrust_sha_constants), ("entrust/sha.initials", Rows.laid_entrust_sha_initials)] W) : ShaIn 4 2 W := by
 rw [MakeChecks.laidMetH_plain _ _ _ (by kernel_rfl)] at h
 obtain ⟨ps, h, -, -⟩ := h
 obtain ⟨h3, ps3, h⟩ := laid_u32 kL h (by kernel_rfl) (by kernel_rfl) Tryz.underlying250 rfl rfl
 obtain ⟨h4, ps4, h⟩ := laid_u32 iH.list h (by kernel_rfl) (by kernel_rfl) Tryz.underlying243 rfl rfl
 exact ⟨h3, range_iH h4⟩
end Go.Proofs.YtfchcdbfalgdlaaGreatDoor
namespace Go.Proofs.YtfchcdbfalgdlaaGreatDoor
set_option linter.unusedVariables false
set_option linter.unusedSimpArgs false
set_option linter.constructorNameAsVariable false
open Go.RowKit Go.Sort Go.Maps
set_option maxHeartbeats 4000000
set_option maxRecDepth 100000
theorem nan_neq (w : World) : (binOp .neq 32 (.float .f64 9221120237041090561) (.float .f64 9221120237041090561)).run Tryz.prog w = .ok (.bool true) w := by kernel_rfl
theorem snil_main (A : Option Addr) (n c : Nat) (L : List Ch) (W : World) (hT : RTb W A n L) (hn : n ≤ maxLen) (hz : ∀ c ∈ L, c.k.n ≤ 140737488355328 ∧ c.v.n ≤ 140737488355328) (hL : ShaIn 4 2 W) :
    Calls Tryz.prog 3 #[.slice A n c] W fun e w' => e = .returned (.bool true) ∧ New W w' := by
 have HT := Lib.hid hT
 have HZ := Lib.hid (And.intro hn hz)
 have HAL := Lib.hid (salive_any W hL)
 clear hT hn hz hL
 go_enter Tryz.func3, Tryz.ntmps3
 go_wp2_with fail
 refine HAL.out.mono ?_
 rintro e w1 ⟨rfl, hN1⟩
 have HN1 := Lib.hid hN1
 clear hN1
 go_wp2_with fail
 refine (long_any A n c L w1 (HT.out.new HN1.out) HZ.out.1 HZ.out.2).mono ?_
 rintro e w2 ⟨⟨b, rfl, -⟩, hN2⟩
 have HN2 : Hid (New W w2) := Lib.hid (HN1.out.tr hN2)
 clear hN2
 cases b with
 | true =>
  go_wp2_with fail
  go_ret
  exact ⟨rfl, HN2.out⟩
 | false =>
  go_wp2_with fail
  refine (sopen_nil w2).mono ?_
  rw [errD_n (show (11 : Int) ≠ 0 by decide)]
  rintro e w3 ⟨rfl, rfl⟩
  go_wp2_with fail
  refine (tidy_nil 0 w2).mono ?_
  rw [errD_n (show (11 : Int) ≠ 0 by decide)]
  rintro e w3 ⟨rfl, rfl⟩
  have kc := fun (w : World) (C : Array Value) (n c : Nat) => Lib.run_convert_bytes_const (P := Tryz.prog) w 33 5 C n c Tryz.underlying33 Tryz.underlying5
  go_wp2_with fail
  clear kc
  refine calls_world fun w4 hw4 => ?_
  have HN4 : Hid (New W w4) := Lib.hid (by rw [hw4.out]; exact HN2.out.al _)
  clear hw4
  refine (sget_nil _ _ _ w4).mono ?_
  rintro e w5 ⟨rfl, rfl⟩
  go_wp2_with fail
  refine (garbage_nil w4).mono ?_
  rintro e w5 ⟨rfl, rfl⟩
  have hnn := nan_neq w4
  have d1 := format_nil w4
  have d2 := commit_nil A n c w4
  have d3 := sweep_nil w4
  rw [errD_n (show (11 : Int) ≠ 0 by decide)] at d1 d2 d3
  have D1 := Lib.hid d1
  have D2 := Lib.hid d2
  have D3 := Lib.hid d3
  clear d1 d2 d3
  go_wp2_with (first
   | (go_at_call 13; refine (is_some 11 11 _ (by decide)).mono ?_; rintro e w' ⟨rfl, rfl⟩)
   | (go_at_call 14; refine D1.out.mono ?_; rintro e w' ⟨rfl, rfl⟩)
   | (go_at_call 15; refine D2.out.mono ?_; rintro e w' ⟨rfl, rfl⟩)
   | (go_at_call 16; refine D3.out.mono ?_; rintro e w' ⟨rfl, rfl⟩)
   | (go_at_call 17; refine (table_nil _).mono ?_; rintro e w' ⟨rfl, rfl⟩)
   | (go_at_call 18; refine (sgen_nil _).mono ?_; rintro e w' ⟨rfl, rfl⟩)
   | (go_at_call 19; refine (free_nil _).mono ?_; rintro e w' ⟨rfl, rfl⟩)
   | (go_at_call 20; refine (broken_nil _).mono ?_; rintro e w' ⟨rfl, rfl⟩))
  go_ret
  exact ⟨rfl, HN4.out⟩
theorem snil_law {v0 : Value} {W : World} (o0 : ∃ x : Sl, v0 = .slice x.A x.n x.c ∧ x.Good W)
    (hL : laidMetH Tryz.prog [("entrust/sha.constants", Rows.laid_entrust_sha_constants), ("entrust/sha.initials", Rows.laid_entrust_sha_initials)] W) :
    Calls Tryz.prog 3 #[v0] W fun e w' => e = .returned (.bool true) ∧ Below W.heap.size W w' := by
 obtain ⟨x, rfl, hx⟩ := o0
 exact snil_main x.A x.n x.c x.L W hx.tb hx.nn (fun c hc => ⟨(hx.gd c hc).kn, (hx.gd c hc).vn⟩) (sha_live hL)
end Go.Proofs.YtfchcdbfalgdlaaGreatDoor
