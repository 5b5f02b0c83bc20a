/- Texts of one proof, one behind the other: SwP, SwA. No condition but each one's own. -/
import Derived.Test.YtpifnmlnhddgeaaGreatDoorVaultNilM25
import Derived.Test.YtpifnmlnhddgeaaGreatDoorVaultNilM27
import Derived.Test.YtpifnmlnhddgeaaGreatDoorVaultNilM23
import Derived.Test.YtpifnmlnhddgeaaGreatDoorVaultNilM6
import Derived.Test.YtpifnmlnhddgeaaGreatDoorVaultNilM14
import Derived.Lib.SlBytesConst
namespace Go.Proofs.YtpifnmlnhddgeaaGreatDoor
set_option linter.unusedVariables false
set_option linter.unusedSimpArgs false
set_option linter.constructorNameAsVariable false
open Go.RowKit Go.Sort Go.Maps
def entB : List Int := [101, 110, 116, 114, 117, 115, 116, 32, 109, 97, 110, 105, 102, 101, 115, 116]
theorem entB_byt : Byt entB := by intro x hx; simp [entB] at hx; omega
def manR (g : Nat) : List Int := beL 4 g ++ (hsh (entB ++ beL 4 g)).take 16
def manB (g : Nat) : List Int := pad64 (manR g)
theorem manR_len (g : Nat) : (manR g).length = 20 := by simp [manR, beL_len, hsh_len]
theorem manR_byt (g : Nat) : Byt (manR g) := fun x hx => by
 rcases List.mem_append.1 hx with hx | hx
 · exact beL_byt _ _ x hx
 · exact hsh_byt _ x (List.mem_of_mem_take hx)
theorem manB_ok (g : Nat) : SecOk (manB g) := ⟨pad64_len (by rw [manR_len]; omega), pad64_byt (manR_byt g)⟩
theorem manB_take (g : Nat) : (manB g).take 4 = beL 4 g := by
 unfold manB pad64 manR
 rw [List.append_assoc, List.take_append_of_le_length (by rw [beL_len]; exact Nat.le_refl _), List.take_of_length_le (by rw [beL_len]; exact Nat.le_refl _)]
theorem manB_num {g : Nat} (h : g < 4294967296) : valL ((manB g).take 4) = g := by rw [manB_take, valL_beL 4 g h]
def man1 (p : DP) (a : Nat) : Nat := if p.rget (a : Int) = manB (valL ((p.rget (a : Int)).take 4)) ∧ valL ((p.rget (a : Int)).take 4) % 2 = a then valL ((p.rget (a : Int)).take 4) else 0
def cnt (p : DP) : Nat := max (man1 p 0) (man1 p 1)
def hlf (n : Nat) : Nat := (n - 2) / 2
def fst0 (g n : Nat) : Nat := 2 + g % 2 * hlf n
def log0 (n g : Nat) : LG := lg0 (fst0 g n) (hlf n) g
def procS (p : DP) (g : Nat) : DP × Int :=
 if p.wcode ((g % 2 : Nat) : Int) ≠ 0 then (p.doWrite ((g % 2 : Nat) : Int) (manB g), p.wcode ((g % 2 : Nat) : Int))
 else ((p.doWrite ((g % 2 : Nat) : Int) (manB g)).doSync, (p.doWrite ((g % 2 : Nat) : Int) (manB g)).scode)
structure Up (p : DP) : Prop where
 fuse : p.fuse = -1
 down : p.down = false
section
variable {p : DP}
theorem Up.wcode (h : Up p) {a : Int} (h1 : 0 ≤ a) (h2 : a < p.size) : p.wcode a = 0 := by
 unfold DP.wcode DP.within
 rw [decide_eq_true ⟨h1, h2⟩, if_pos rfl, if_neg (by rw [h.fuse, h.down]; simp)]
theorem Up.write (h : Up p) (a : Int) (s : List Int) : Up (p.doWrite a s) := by
 unfold DP.doWrite
 split
 · rw [if_neg (by rw [h.fuse, h.down]; simp)]
   exact ⟨by show (if 0 < p.fuse then p.fuse - 1 else p.fuse) = -1; rw [h.fuse]; rfl, h.down⟩
 · exact h
theorem Up.sync (h : Up p) : Up p.doSync := by
 unfold DP.doSync
 rw [h.down, if_neg (by simp)]
 exact ⟨h.fuse, h.down⟩
theorem Up.scode (h : Up p) : p.scode = 0 := by unfold DP.scode; rw [h.down]; rfl
theorem Up.new (n : Nat) : Up (DP.new n) := ⟨rfl, rfl⟩
theorem Up.wipeN (h : Up p) {l : LG} (hf : l.first + l.size ≤ p.size) : ∀ k, l.used + k ≤ l.size → (wipeN p l k).2.2 = 0 ∧ Up (wipeN p l k).1 ∧ (wipeN p l k).1.size = p.size
 | 0, _ => ⟨rfl, h, rfl⟩
 | k + 1, hk => by
  obtain ⟨h1, h2, h3⟩ := h.wipeN hf k (by omega)
  unfold Go.Proofs.YtpifnmlnhddgeaaGreatDoor.wipeN
  simp only
  rw [if_neg (by rw [h1]; simp)]
  split
  · exact ⟨h2.wcode (by omega) (by rw [h3]; omega), h2.write _ _, by show (DP.doWrite _ _ _).size = _; rw [DP.doWrite_size, h3]⟩
  · exact ⟨h1, h2, h3⟩
theorem Up.wipe (h : Up p) {l : LG} (hf : l.first + l.size ≤ p.size) (hu : l.used ≤ l.size) : (wipeL p l).2 = 0 ∧ Up (wipeL p l).1 ∧ (wipeL p l).1.size = p.size := by
 obtain ⟨h1, h2, h3⟩ := h.wipeN hf (l.size - l.used) (by omega)
 unfold wipeL
 simp only
 rw [if_neg (by rw [h1]; simp)]
 split
 · exact ⟨h2.scode, h2.sync, by show (DP.doSync _).size = _; rw [DP.doSync_size, h3]⟩
 · exact ⟨rfl, h2, h3⟩
theorem Up.proc (h : Up p) (g : Nat) (hs : 2 ≤ p.size) : (procS p g).2 = 0 ∧ Up (procS p g).1 ∧ (procS p g).1.size = p.size := by
 have hw := h.wcode (a := ((g % 2 : Nat) : Int)) (by omega) (by omega)
 unfold procS
 rw [if_neg (by rw [hw]; simp)]
 exact ⟨(h.write _ _).scode, (h.write _ _).sync, by show (DP.doSync _).size = _; rw [DP.doSync_size, DP.doWrite_size]⟩
end
theorem hlf_fit {n g : Nat} (h : 4 ≤ n) : 1 ≤ hlf n ∧ fst0 g n + hlf n ≤ n ∧ 2 ≤ fst0 g n := by
 unfold fst0 hlf
 have h1 : g % 2 = 0 ∨ g % 2 = 1 := by omega
 rcases h1 with h1 | h1 <;> rw [h1] <;> omega
theorem fst0_apart {n g g' : Nat} (h : g % 2 ≠ g' % 2) {x y : Nat} (hx : x < hlf n) (hy : y < hlf n) : fst0 g n + x ≠ fst0 g' n + y := by
 unfold fst0
 have h1 : g % 2 = 0 ∨ g % 2 = 1 := by omega
 have h2 : g' % 2 = 0 ∨ g' % 2 = 1 := by omega
 rcases h1 with h1 | h1 <;> rcases h2 with h2 | h2 <;> rw [h1, h2] <;> omega
def fmtS (p : DP) : DP := (procS (wipeL ((p.doWrite 0 sec0).doWrite 1 sec0).doSync (log0 p.size 1)).1 1).1
theorem fmt_up {p : DP} (h : Up p) (hs : 4 ≤ p.size) : Up (fmtS p) ∧ (fmtS p).size = p.size := by
 have h1 := ((h.write 0 sec0).write 1 sec0).sync
 have hz : ((p.doWrite 0 sec0).doWrite 1 sec0).doSync.size = p.size := by rw [DP.doSync_size, DP.doWrite_size, DP.doWrite_size]
 have hf := hlf_fit (g := 1) hs
 obtain ⟨-, h2, h3⟩ := h1.wipe (l := log0 p.size 1) (by rw [hz]; exact hf.2.1) (Nat.zero_le _)
 obtain ⟨-, h4, h5⟩ := h2.proc 1 (by rw [h3, hz]; omega)
 exact ⟨h4, by show (procS _ 1).1.size = _; rw [h5, h3, hz]⟩
def doP (T : CT) (c : PC) : CT := if c.d then cdel T c.k else cput T c.k c.v
def doPs (T : CT) (L : List PC) : CT := L.foldl doP T
theorem doPs_of (T : CT) (L : List Ch) : doCs T L = doPs T (L.map pcOf) := by
 induction L generalizing T with
 | nil => rfl
 | cons c L ih => exact ih (doC T c)
def chP (c : PC) : List Int := [if !c.d then 1 else 0] ++ beL 2 c.k.length ++ c.k ++ (if c.d then [] else beL 2 c.v.length ++ c.v)
def putP (L : List PC) : List Int := beL 2 L.length ++ L.flatMap chP
theorem chP_of {c : Ch} (h : c.k.xs.length = c.k.n ∧ c.v.xs.length = c.v.n) : chB c = chP (pcOf c) := by
 unfold chB chP pcOf
 rw [h.1, h.2]
theorem putP_of {L : List Ch} (h : LenOk L) : putB L = putP (L.map pcOf) := by
 have key : ∀ M : List Ch, LenOk M → M.flatMap chB = (M.map pcOf).flatMap chP := by
  intro M
  induction M with
  | nil => intro _; rfl
  | cons c M ih =>
   intro hM
   rw [List.flatMap_cons, List.map_cons, List.flatMap_cons, chP_of (hM c (List.mem_cons_self ..)), ih fun x hx => hM x (List.mem_cons_of_mem _ hx)]
 unfold putB putP
 rw [key L h, List.length_map]
def kvP (e : List Int × List Int) : PC := ⟨e.1, e.2, false⟩
def batP (T : CT) : List (List PC) := (rws (spl sz1 (sct_l19 T))).map (List.map kvP)
def prsAll (T : CT) : List (List Int) → Option CT
 | [] => some T
 | b :: bs => match parseB b with
  | some L => prsAll (doPs T L) bs
  | none => none
structure SW where
 p : DP
 l : LG
 t : CT
 gen : Nat
 broken : Bool
noncomputable def opnS (p : DP) : DP × Int × Option SW :=
 if p.size < 4 then (p, 1, none) else if cnt p = 0 then (p, 2, none) else
 let r := runL p (log0 p.size (cnt p))
 let q := (wipeL p r.1).1
 match prsAll [] r.2 with
 | some t => (q, 0, some ⟨q, r.1, t, cnt p, false⟩)
 | none => (q, 2, none)
def apps (p : DP) (l : LG) : List (List Int) → DP × LG × Int
 | [] => (p, l, 0)
 | b :: bs => if (appL p l b).2.2 ≠ 0 then appL p l b else apps (appL p l b).1 (appL p l b).2.1 bs
def anewS (s : SW) : DP × LG × Int :=
 let l0 := log0 s.p.size (s.gen + 1)
 let r := wipeL s.p l0
 if r.2 ≠ 0 then (r.1, l0, r.2) else
 let a := apps r.1 l0 ((batP s.t).map putP)
 if a.2.2 ≠ 0 then a else
 if a.1.scode ≠ 0 then (a.1.doSync, a.2.1, a.1.scode) else
 ((procS a.1.doSync (s.gen + 1)).1, a.2.1, (procS a.1.doSync (s.gen + 1)).2)
def brk (c : Int) : Bool := decide (c ≠ 0 ∧ c ≠ 8 ∧ c ≠ 9)
def swpS (s : SW) : SW × Int :=
 if s.broken = true then (s, 10) else if s.gen = 4294967295 then (s, 9) else
 let r := anewS s
 if r.2.2 ≠ 0 then ({ s with p := r.1, broken := brk r.2.2 }, r.2.2) else ({ s with p := r.1, l := r.2.1, gen := s.gen + 1 }, 0)
def addS (s : SW) (b : List Int) : SW × Int :=
 if (appL s.p s.l b).2.2 ≠ 8 then ({ s with p := (appL s.p s.l b).1, l := (appL s.p s.l b).2.1 }, (appL s.p s.l b).2.2) else
 let r := swpS { s with p := (appL s.p s.l b).1, l := (appL s.p s.l b).2.1 }
 if r.2 ≠ 0 then r else ({ r.1 with p := (appL r.1.p r.1.l b).1, l := (appL r.1.p r.1.l b).2.1 }, (appL r.1.p r.1.l b).2.2)
def cmtS (s : SW) (L : List PC) : SW × Int :=
 if pcsOk L = false then (s, 2) else if s.broken = true then (s, 10) else if 65536 < (putP L).length then (s, 3) else
 let r := addS s (putP L)
 if r.2 ≠ 0 then ({ r.1 with broken := r.1.broken || brk r.2 }, r.2) else
 if r.1.p.scode ≠ 0 then ({ r.1 with p := r.1.p.doSync, broken := r.1.broken || brk r.1.p.scode }, r.1.p.scode) else
 ({ r.1 with p := r.1.p.doSync, t := doPs r.1.t L }, 0)
end Go.Proofs.YtpifnmlnhddgeaaGreatDoor
namespace Go.Proofs.YtpifnmlnhddgeaaGreatDoor
set_option linter.unusedVariables false
set_option linter.unusedSimpArgs false
set_option linter.constructorNameAsVariable false
open Go.RowKit Go.Sort
theorem rd_cells {w : World} {g T : Nat} {fz : Nat × Nat} {cs : Array Value} {xs : List Value} {n : Nat} (h : w.heap[g]? = some (.cells cs T fz)) (hx : cs.toList = xs) (hn : xs.length = n) : Rd (fun _ => True) w 1 (some ⟨g, 0, none⟩) n xs := by
 subst hx
 refine ⟨by omega, fun _ => ⟨_, rfl, trivial, (Array.getElem?_eq_some_iff.1 h).1, fun j u hu => ?_⟩⟩
 rw [add_own]
 simpa [World.cell?, h] using hu
theorem manR_eq (g : Nat) : beL 4 g ++ (hsh [entB, beL 4 g].flatten).take 16 = manR g := by simp [manR]
set_option maxHeartbeats 3000000 in
set_option maxRecDepth 100000 in
theorem manifest_any (g : Nat) (hg : g < 4294967296) (w : World) (hL : ShaIn 1 0 w) :
    Calls Tryz.prog 206 #[.int .u32 g] w fun e w' => e = .returned (.tuple #[.agg (secA (manB g)), .nilIface]) ∧ New w w' := by
 have HL := Lib.hid hL
 have HG := Lib.hid hg
 have k1 : IntKind.u64.wrap (g : Int) = (g : Int) := by rw [IntKind.wrap_u64]; omega
 have n0 : ((4 : Nat) : Int) = 4 := rfl
 clear hL hg
 go_enter Tryz.func206, Tryz.ntmps206
 go_upto_region 2 with fail
 refine wp_world fun w1 hw1 => ?_
 obtain ⟨b2, hb2⟩ := nm w.heap.size
 obtain ⟨gw, hgw⟩ := nm (w.heap.size + 1)
 have HN1 : Hid (New w w1) := Lib.hid (by rw [hw1.out]; exact (New.refl _).al2 _ _)
 have HB2 : Hid (Blk w1 b2 155 (secA sec0)) := Lib.hid (by rw [hw1.out, hb2]; exact (Blk.new _ _ _).alloc _)
 have HW1 : Hid (WrIn w1 gw gw []) := Lib.hid ⟨⟨none, 0, by rw [hw1.out, hgw]; exact Blk.new' _ _ _ (by simp), World.ownsRow_nil _ _ _ _⟩, Nat.le_refl _, fun x hx => nomatch hx⟩
 have HZ : Hid (b2 = w.heap.size ∧ gw = w.heap.size + 1) := Lib.hid ⟨hb2, hgw⟩
 rw [← hgw, ← hb2]
 clear hw1 hb2 hgw
 go_wp2_with fail
 refine (wnum_any HW1.out g 4 (by omega) (by have := HG.out; omega) (by simp)).mono ?_
 rintro e w2 ⟨rfl, hW2, hF2⟩
 have HW2 := Lib.hid hW2
 have HF2 := Lib.hid hF2
 clear hW2 hF2
 go_wp2_with fail
 refine (wdone_any HW2.out (by simp [beL_len])).mono ?_
 rintro e w6 ⟨⟨B, d, rfl, hO⟩, hN6⟩
 rw [List.nil_append, beL_len] at hO ⊢
 have HO := Lib.hid hO
 have HN6 : Hid (New w w6) := Lib.hid ((HF2.out.toNew HN1.out (by have := HZ.out; omega) (Nat.le_refl _)).tr hN6)
 have HB26 : Hid (Blk w6 b2 155 (secA sec0)) := Lib.hid (hN6.blk (HF2.out.blk HB2.out (by decide) (by have := HZ.out; omega)))
 have HWS : Hid (b2 < w2.heap.size ∧ w2.heap.size ≤ w6.heap.size) := Lib.hid ⟨by have h1 := HW2.out.lt; have := HZ.out; omega, hN6.size⟩
 clear hO hN6 HF2 HW2 HW1 HB2 HN1
 have kc := fun (w : World) (C : Array Value) (n c : Nat) => Lib.run_convert_bytes_const (P := Tryz.prog) w 122 5 C n c Tryz.underlying122 Tryz.underlying5
 go_wp2_with fail
 clear kc
 obtain ⟨bp, hbp⟩ := nm (w6.heap.size + 1)
 refine calls_world fun w7 hw7 => ?_
 have HN7 : Hid (New w6 w7) := Lib.hid (by rw [hw7.out]; exact (New.refl _).al2 _ _)
 have HP : Hid (Parts w7 bp 0 [entB, beL 4 g]) := Lib.hid ⟨fun i l hl => by
  have hB : Blk w7 bp 122 #[.slice (some ⟨w6.heap.size, 0, none⟩) 16 16, .slice B 4 d] := by rw [hw7.out, hbp]; exact Blk.new' _ _ _ (by simp)
  match i, hl with
  | 0, hl =>
   obtain rfl : entB = l := by simpa using hl
   exact ⟨entB_byt, some ⟨w6.heap.size, 0, none⟩, 16, hB.cell 0, rd_cells (by rw [hw7.out]; exact (Below.heap_alloc _ _ _ (by simp)).trans (World.alloc_heap_new w6 _)) rfl rfl⟩
  | 1, hl =>
   obtain rfl : beL 4 g = l := by simpa using hl
   exact ⟨beL_byt _ _, B, d, by rw [beL_len]; exact hB.cell 1, by rw [beL_len]; exact HN7.out.rd ((Rd.own HO.out rfl).imp (fun _ _ => trivial))⟩
  | (i + 2), hl => simp at hl⟩
 rw [← hbp]
 clear hw7 hbp
 refine (of_any bp 0 2 [entB, beL 4 g] 2 rfl w7 ((HL.out.new HN6.out).new HN7.out) (by simp) HP.out (by simp) (by simp [entB, beL_len]) (by simp)).mono ?_
 rintro e w8 ⟨rfl, hN8⟩
 have HTL : Hid (manR g = beL 4 g ++ (hsh [entB, beL 4 g].flatten).take 16) := Lib.hid (manR_eq g).symm
 obtain ⟨HS, hHS⟩ := nm (hsh [entB, beL 4 g].flatten)
 rw [← hHS] at HTL ⊢
 have HS32 : Hid (HS.length = 32) := Lib.hid (by rw [hHS]; exact hsh_len _)
 have HN8 : Hid (New w6 w8) := Lib.hid (HN7.out.tr hN8)
 have HZ3 : Hid ((secA HS).size = 32) := Lib.hid (by rw [secA_size, HS32.out])
 clear hN8 hHS HP HN7
 go_upto_region 6 with ((with_reducible refine atOp ⟨some 7, .alloc _, _, _, _, _⟩ ?_); refine wpList_newvar (s := HS) rfl rfl rfl _ _ rfl hashInfo rfl rfl rfl HS32.out ?_)
 go_upto_region 7 with fail
 refine wp_world fun w9 hw9 => ?_
 obtain ⟨b9, hb9⟩ := nm w8.heap.size
 obtain ⟨b10, hb10⟩ := nm (w8.heap.size + 1)
 have HB9 : Hid (Blk w9 b9 50 (secA HS)) := Lib.hid (by rw [hw9.out, hb9]; exact (Blk.new _ _ _).alloc _)
 have HB10 : Hid (Blk w9 b10 155 (u8s sec0).toArray) := Lib.hid (by rw [hw9.out, hb10]; exact Blk.new' _ _ _ (by simp))
 have HN9 : Hid (New w6 w9) := Lib.hid (HN8.out.tr (by rw [hw9.out]; exact (New.refl _).al2 _ _))
 have HZ9 : Hid (b9 = w8.heap.size ∧ b10 = w8.heap.size + 1 ∧ w6.heap.size ≤ w8.heap.size ∧ w9.heap.size = w8.heap.size + 2) := Lib.hid ⟨hb9, hb10, HN8.out.size, by rw [hw9.out]; simp⟩
 rw [← hb10, ← hb9]
 clear hw9 hb9 hb10
 have HB29 : Hid (Blk w9 b2 155 (secA sec0)) := Lib.hid (HN9.out.blk HB26.out)
 have HR16 : Hid (Rd (fun _ => True) w9 1 (some ⟨b9, 0, none⟩) 16 (u8s (HS.take 16))) := Lib.hid (by
  have h := Rd.ofBlk (p := fun _ => True) HB9.out 1 32 (by rw [secA_size, HS32.out]) trivial
  rw [secA_list] at h
  exact Rd.take h (by omega))
 have HBB : Hid ((Value.slice B 4 d).ownBlock ≠ some b2 ∧ (Value.slice B 4 d).ownBlock ≠ some b10) := Lib.hid ⟨fun h => by have h1 := own_lt HO.out _ h; have := HWS.out; omega, fun h => by have h1 := own_lt HO.out _ h; have := HZ9.out; omega⟩
 have HXL : Hid ((u8s (manR g)).length = 20) := Lib.hid (by rw [u8s_len, manR_len])
 have HSP : Hid (splice (u8s sec0) 0 (u8s (manR g)) = u8s (manB g)) := Lib.hid (splice_pad (by rw [manR_len]; omega))
 have HPZ : Hid ((secA (manB g)).size = 64) := Lib.hid (by rw [secA_size, (manB_ok g).1])
 refine wp_region_mixH (fun _ => True) [(true, 0), (true, 1), (true, 2), (false, 3), (false, 4)] (by kernel_rfl) (by kernel_rfl) trivial (fun hne => ?_)
 iterate 3 (refine mix_take (o := ⟨_, _, _, _, _, _⟩) rfl (fun K hK => ?_); go_simp; refine hK _ ?_; clear hK K)
 refine mix_app (o := ⟨_, _, _, _, _, _⟩) elB w9.drew rfl rfl (.tmp 29) (.tmp 30) rfl w2.heap.size (.slice B 4 d) 4 (u8s (beL 4 g)) rfl ((New.dr (New.refl w9)).own (HN9.out.own HO.out)) (some ⟨b9, 0, none⟩) 16 _ (u8s (HS.take 16)) rfl ((New.dr (New.refl w9)).rd HR16.out) (u8s_one _) (by unfold maxLen; omega) (by omega) (by show _ ≤ w9.heap.size; have := HWS.out; have := HZ9.out; omega) ?_
 intro A1 d1 w10 hO10 hF10 hA10
 have hf10 := Fr.ofDrew hF10
 have HOA : Hid (w10.ownsRow w2.heap.size 5 1 (.slice A1 20 d1) 20 (u8s (manR g))) := Lib.hid (by rw [HTL.out]; unfold u8s; rw [List.map_append]; exact hO10)
 have HBA2 := Lib.hid (HB29.out.fr hf10 (fun h => HBB.out.1 h))
 have HBA10 := Lib.hid (HB10.out.fr hf10 (fun h => HBB.out.2 h))
 have HF10 := Lib.hid hf10
 clear hO10 hF10 hA10 hf10
 refine ⟨fun _ => trivial, ?_⟩
 refine mix_copyF (o := ⟨_, _, _, _, _, _⟩) (q := fun k => (Value.slice A1 20 d1).ownBlock = some k) rfl rfl (.tmp 28) (.tmp 31) 122 122 rfl 5 Tryz.underlying122 rfl b10 0 64 64 A1 20 d1 rfl rfl (u8s sec0) 155 HBA10.out (u8s (manR g)) (by rw [HXL.out]; rfl) ⟨20, u8s (manR g), Rd.own HOA.out rfl, List.take_length⟩ (by rw [HXL.out]; decide) (u8s_one _) ?_
 intro w11 hb11 hf11
 rw [HSP.out] at hb11
 have HB11 : Hid (Blk w11 b10 155 (secA (manB g))) := Lib.hid hb11
 have HF11 := Lib.hid hf11
 have HBB2 := Lib.hid (HBA2.out.fr hf11 (by have := HWS.out; have := HZ9.out; omega))
 clear hb11 hf11
 refine ⟨fun _ => trivial, ?_⟩
 refine mix_done ?_
 go_wp2_with (first
  | ((with_reducible refine atOp ⟨some 33, .load _ _, _, _, _, _⟩ ?_); refine wpList_load_any rfl _ rfl Tryz.underlying155 rfl (by rw [HPZ.out]; rfl) rfl HB11.out ?_)
  | ((with_reducible refine atOp ⟨none, .store 155 (.tmp 2) _, _, _, _, _⟩ ?_); refine wpList_store_any rfl (.tmp 2) (.tmp 33) rfl (by rw [HPZ.out]; rfl) rfl rfl HBB2.out (by rw [HPZ.out]; rfl) (secA_one _) ?_; intro w12 hb12 hf12; have HB12 := Lib.hid hb12; have HF12 := Lib.hid hf12; clear hb12 hf12))
 exact bodyPost_ret (results_row2' rfl _ _ b2 _ _ rfl HB12.out Tryz.underlying155 rfl (by rw [HPZ.out]; rfl)) rfl ⟨rfl, (((HN6.out.tr HN9.out).fr HF10.out (fun k hk => by have h1 := own_lt HO.out _ hk; have := HWS.out; have := HZ.out; omega)).fr HF11.out (fun k hk => by have := HWS.out; have := HZ9.out; have := HN6.out.size; omega)).fr HF12.out (fun k hk => by have := HZ.out; omega)⟩
end Go.Proofs.YtpifnmlnhddgeaaGreatDoor
