/- Disks: read, written. No condition but the disk's own. -/
import Derived.Test.YtpdgnidoglmgcaaDkA
namespace Go.Proofs.Ytpdgnidoglmgcaa
open Go.RowKit Go.Maps

theorem secInfo : (Try.prog.info? 31).map (fun i => (i.zero, i.size)) = some (some (.agg (secA sec0)), 64) := by kernel_rfl
theorem zSec (w : World) : (zeroValue 31).run Try.prog w = .ok (.agg (secA sec0)) w := (zero_of_info secInfo).1 w
theorem keyI {a : Int} (h0 : 0 ≤ a) (h1 : a < 16384) : keyOf Try.prog 3 (.int .i64 a) = some (.int .i64 a) :=
  keyOf_int_mk Try.underlying3 (by simp [Lit.wf, IntKind.min, IntKind.max, IntKind.signed, IntKind.bits]; omega)

theorem get_fresh {p : DP} {a : Int} {s : List Int} (h : p.fresh a = some s) : p.get a = s := by simp [DP.get, h]
theorem get_sure {p : DP} {a : Int} (h : p.fresh a = none) : p.get a = (p.sure a).getD sec0 := by simp [DP.get, h]
set_option maxHeartbeats 2000000 in
set_option maxRecDepth 100000 in
theorem read_in {w : World} {base g bs bf : Nat} {v : Value} {p : DP} (h : Dk w base g bs bf v p) {a : Int} (h0 : 0 ≤ a) (h1 : a < p.size) : Calls Try.prog 13 #[.pointer (some ⟨g, 0, none⟩), .int .i64 a] w fun e w' => e = .returned (.tuple #[.agg (secA (p.get a)), .nilIface]) ∧ New w w' := by
  have H := Lib.hid h
  have hk := keyI h0 (by have := h.ok.s2; omega)
  have HK := Lib.hid hk
  clear h hk
  go_enter Try.func13, Try.ntmps13
  go_wp2_with fail
  obtain ⟨w0, hw0⟩ : ∃ w0 : World, w0 = w.alloc (.cells #[.int .u8 0, .int .u8 0, .int .u8 0, .int .u8 0, .int .u8 0, .int .u8 0, .int .u8 0, .int .u8 0, .int .u8 0, .int .u8 0, .int .u8 0, .int .u8 0, .int .u8 0, .int .u8 0, .int .u8 0, .int .u8 0, .int .u8 0, .int .u8 0, .int .u8 0, .int .u8 0, .int .u8 0, .int .u8 0, .int .u8 0, .int .u8 0, .int .u8 0, .int .u8 0, .int .u8 0, .int .u8 0, .int .u8 0, .int .u8 0, .int .u8 0, .int .u8 0, .int .u8 0, .int .u8 0, .int .u8 0, .int .u8 0, .int .u8 0, .int .u8 0, .int .u8 0, .int .u8 0, .int .u8 0, .int .u8 0, .int .u8 0, .int .u8 0, .int .u8 0, .int .u8 0, .int .u8 0, .int .u8 0, .int .u8 0, .int .u8 0, .int .u8 0, .int .u8 0, .int .u8 0, .int .u8 0, .int .u8 0, .int .u8 0, .int .u8 0, .int .u8 0, .int .u8 0, .int .u8 0, .int .u8 0, .int .u8 0, .int .u8 0, .int .u8 0] 31) := ⟨_, rfl⟩
  have HN0 : Hid (New w w0) := Lib.hid (by rw [hw0]; exact New.al (New.refl _) _)
  have HB0 : Hid (Blk w0 w.heap.size 31 (secA sec0)) := Lib.hid (by rw [hw0]; exact Blk.new _ _ _)
  have HD0 := Lib.hid (H.out.new HN0.out)
  rw [← hw0]
  clear hw0
  refine (may_in HD0.out h0 h1).mono ?_
  rintro e w1 ⟨rfl, rfl⟩
  have c2 := HD0.out.blk.cell 2
  cases hf : p.fresh a with
  | some s =>
    have HG := Lib.hid (get_fresh hf)
    have HF := Lib.hid hf
    have HS := Lib.hid (HD0.out.ok.freshR a s hf).2
    clear hf
    go_wp2_with (first
      | ((with_reducible refine atOp ⟨some 22, _, _, _, _, _⟩ ?_); refine wpList_mlook2 (o := ⟨some 22, _, _, _, _, _⟩) HD0.out.mw kI Try.underlying55 (zSec _) rfl (.tmp 20) (.tmp 21) rfl rfl _ _ rfl HK.out (.agg (secA s)) true (by simp [mf, HF.out]) (by simp [mf, HF.out]) ?_)
      | ((with_reducible refine atOp ⟨some 7, .alloc _, _, _, _, _⟩ ?_); refine wpList_newvar (s := s) rfl rfl rfl _ _ rfl secInfo rfl rfl rfl HS.out.1 ?_)
      | ((with_reducible refine atOp ⟨some 26, _, _, _, _, _⟩ ?_); refine wpList_load_blk (s := s) rfl _ rfl Try.underlying31 rfl rfl (Blk.new _ _ _) HS.out.1 ?_)
      | ((with_reducible refine atOp ⟨none, .store 31 (.tmp 4) _, _, _, _, _⟩ ?_); refine wpList_store_blk (s := s) (s0 := sec0) rfl (.tmp 4) (.tmp 26) rfl rfl rfl rfl (HB0.out.alloc _) rfl HS.out.1 ?_; intro w2 hb2 hf2; have HB2 := Lib.hid hb2; have HF2 := Lib.hid hf2; clear hb2 hf2))
    refine bodyPost_ret (results_sec2 rfl _ _ rfl HB2.out Try.underlying31 rfl HS.out.1) rfl ?_
    exact ⟨by rw [HG.out]; rfl, (HN0.out.al _).fr HF2.out (fun k hk => by have := HN0.out.size; omega)⟩
  | none =>
    have HG := Lib.hid (get_sure hf)
    have HF := Lib.hid hf
    obtain ⟨s, hs⟩ : ∃ s, s = (p.sure a).getD sec0 := ⟨_, rfl⟩
    have hs2 : SecOk s := by
      have := HD0.out.ok.get a
      rwa [HG.out, ← hs] at this
    have hv : (mf p.sure (.int .i64 a)).getD (.agg (secA sec0)) = .agg (secA s) := by
      rw [hs]
      cases hq : p.sure a <;> simp [mf, hq]
    rw [← hs] at HG
    have HS := Lib.hid hs2
    have HV := Lib.hid hv
    clear hf hs hs2 hv
    have c1 := fun o : Obj => (New.al (New.refl w0) o).cell_ (HD0.out.blk.cell 1)
    go_wp2_with (first
      | ((with_reducible refine atOp ⟨some 22, _, _, _, _, _⟩ ?_); refine wpList_mlook2 (o := ⟨some 22, _, _, _, _, _⟩) HD0.out.mw kI Try.underlying55 (zSec _) rfl (.tmp 20) (.tmp 21) rfl rfl _ _ rfl HK.out (.agg (secA sec0)) false (by simp [mf, HF.out]) (by simp [mf, HF.out]) ?_)
      | ((with_reducible refine atOp ⟨some 7, .alloc _, _, _, _, _⟩ ?_); refine wpList_newvar (s := sec0) rfl rfl rfl _ _ rfl secInfo rfl rfl rfl sec0_ok.1 ?_)
      | ((with_reducible refine atOp ⟨some 32, _, _, _, _, _⟩ ?_); refine wpList_mlook1 (o := ⟨some 32, _, _, _, _, _⟩) (HD0.out.ms.alloc _) kI Try.underlying55 (zSec _) rfl (.tmp 30) (.tmp 31) rfl rfl _ _ rfl HK.out (.agg (secA s)) HV.out ?_)
      | ((with_reducible refine atOp ⟨none, .store 31 (.tmp 4) _, _, _, _, _⟩ ?_); refine wpList_store_blk (s := s) (s0 := sec0) rfl (.tmp 4) (.tmp 32) rfl rfl rfl rfl (HB0.out.alloc _) rfl HS.out.1 ?_; intro w2 hb2 hf2; have HB2 := Lib.hid hb2; have HF2 := Lib.hid hf2; clear hb2 hf2))
    refine bodyPost_ret (results_sec2 rfl _ _ rfl HB2.out Try.underlying31 rfl HS.out.1) rfl ?_
    exact ⟨by rw [HG.out]; rfl, (HN0.out.al _).fr HF2.out (fun k hk => by have := HN0.out.size; omega)⟩
set_option maxHeartbeats 2000000 in
set_option maxRecDepth 100000 in
theorem read_bad {pt : Option Addr} {a n : Int} {w : World} (hmay : ∀ w', New w w' → Calls Try.prog 21 #[.pointer pt, .int .i64 a] w' fun e w'' => e = .returned (.iface 45 (.int .i64 n)) ∧ w' = w'') :
    Calls Try.prog 13 #[.pointer pt, .int .i64 a] w fun e w' => e = .returned (.tuple #[.agg (secA sec0), .iface 45 (.int .i64 n)]) ∧ New w w' := by
  have HM := Lib.hid hmay
  have hbuild : ∀ w, (Instr.build 31 #[]).run Try.prog w = .ok (.agg (secA sec0)) w := fun _ => by kernel_rfl
  clear hmay
  go_enter Try.func13, Try.ntmps13
  go_wp2_with fail
  obtain ⟨w0, hw0⟩ : ∃ w0 : World, w0 = w.alloc (.cells #[.int .u8 0, .int .u8 0, .int .u8 0, .int .u8 0, .int .u8 0, .int .u8 0, .int .u8 0, .int .u8 0, .int .u8 0, .int .u8 0, .int .u8 0, .int .u8 0, .int .u8 0, .int .u8 0, .int .u8 0, .int .u8 0, .int .u8 0, .int .u8 0, .int .u8 0, .int .u8 0, .int .u8 0, .int .u8 0, .int .u8 0, .int .u8 0, .int .u8 0, .int .u8 0, .int .u8 0, .int .u8 0, .int .u8 0, .int .u8 0, .int .u8 0, .int .u8 0, .int .u8 0, .int .u8 0, .int .u8 0, .int .u8 0, .int .u8 0, .int .u8 0, .int .u8 0, .int .u8 0, .int .u8 0, .int .u8 0, .int .u8 0, .int .u8 0, .int .u8 0, .int .u8 0, .int .u8 0, .int .u8 0, .int .u8 0, .int .u8 0, .int .u8 0, .int .u8 0, .int .u8 0, .int .u8 0, .int .u8 0, .int .u8 0, .int .u8 0, .int .u8 0, .int .u8 0, .int .u8 0, .int .u8 0, .int .u8 0, .int .u8 0, .int .u8 0] 31) := ⟨_, rfl⟩
  have HN0 : Hid (New w w0) := Lib.hid (by rw [hw0]; exact New.al (New.refl _) _)
  have HB0 : Hid (Blk w0 w.heap.size 31 (secA sec0)) := Lib.hid (by rw [hw0]; exact Blk.new _ _ _)
  rw [← hw0]
  clear hw0
  refine (HM.out w0 HN0.out).mono ?_
  rintro e w1 ⟨rfl, rfl⟩
  go_wp2_with (first
      | ((with_reducible refine atOp ⟨none, .store 31 (.tmp 4) _, _, _, _, _⟩ ?_); refine wpList_store_blk (s := sec0) (s0 := sec0) rfl (.tmp 4) (.tmp 14) rfl rfl rfl rfl HB0.out rfl sec0_ok.1 ?_; intro w2 hb2 hf2; have HB2 := Lib.hid hb2; have HF2 := Lib.hid hf2; clear hb2 hf2))
  refine bodyPost_ret (results_sec2 rfl _ _ rfl HB2.out Try.underlying31 rfl sec0_ok.1) rfl ?_
  exact ⟨rfl, HN0.out.fr HF2.out (fun k hk => by omega)⟩
theorem read_nil (a : Int) (w : World) : Calls Try.prog 13 #[.pointer none, .int .i64 a] w fun e w' => e = .returned (.tuple #[.agg (secA sec0), .iface 45 (.int .i64 11)]) ∧ New w w' := read_bad fun w' _ => may_nil a w'
theorem read_out {w : World} {base g bs bf : Nat} {v : Value} {p : DP} (h : Dk w base g bs bf v p) {a : Int} (h1 : ¬ (0 ≤ a ∧ a < p.size)) : Calls Try.prog 13 #[.pointer (some ⟨g, 0, none⟩), .int .i64 a] w fun e w' => e = .returned (.tuple #[.agg (secA sec0), .iface 45 (.int .i64 1)]) ∧ New w w' := read_bad fun w' hN => may_out (h.new hN) h1
end Go.Proofs.Ytpdgnidoglmgcaa
