/- Texts of one proof, one behind the other: SwP. No condition but each one's own. -/
import Derived.Test.YtfchcdbfalgdlaaGreatDoorSweepKeepsM18
import Derived.Test.YtfchcdbfalgdlaaGreatDoorSweepKeepsM24
namespace Go.Proofs.YtfchcdbfalgdlaaGreatDoor
set_option linter.unusedVariables false
set_option linter.unusedSimpArgs false
set_option linter.constructorNameAsVariable false
open Go.RowKit Go.Sort Go.Maps
def entB : List Int := [101, 110, 116, 114, 117, 115, 116, 32, 109, 97, 110, 105, 102, 101, 115, 116]
theorem entB_byt : Byt entB := by intro x hx; simp [entB] at hx; omega
def manR (g : Nat) : List Int := beL 4 g ++ (hsh (entB ++ beL 4 g)).take 16
def manB (g : Nat) : List Int := pad64 (manR g)
theorem manR_len (g : Nat) : (manR g).length = 20 := by simp [manR, beL_len, hsh_len]
theorem manR_byt (g : Nat) : Byt (manR g) := fun x hx => by
 rcases List.mem_append.1 hx with hx | hx
 · exact beL_byt _ _ x hx
 · exact hsh_byt _ x (List.mem_of_mem_take hx)
theorem manB_ok (g : Nat) : SecOk (manB g) := ⟨pad64_len (by rw [manR_len]; omega), pad64_byt (manR_byt g)⟩
theorem manB_take (g : Nat) : (manB g).take 4 = beL 4 g := by
 unfold manB pad64 manR
 rw [List.append_assoc, List.take_append_of_le_length (by rw [beL_len]; exact Nat.le_refl _), List.take_of_length_le (by rw [beL_len]; exact Nat.le_refl _)]
theorem manB_num {g : Nat} (h : g < 4294967296) : valL ((manB g).take 4) = g := by rw [manB_take, valL_beL 4 g h]
def man1 (p : DP) (a : Nat) : Nat := if p.rget (a : Int) = manB (valL ((p.rget (a : Int)).take 4)) ∧ valL ((p.rget (a : Int)).take 4) % 2 = a then valL ((p.rget (a : Int)).take 4) else 0
def cnt (p : DP) : Nat := max (man1 p 0) (man1 p 1)
def hlf (n : Nat) : Nat := (n - 2) / 2
def fst0 (g n : Nat) : Nat := 2 + g % 2 * hlf n
def log0 (n g : Nat) : LG := lg0 (fst0 g n) (hlf n) g
def procS (p : DP) (g : Nat) : DP × Int :=
 if p.wcode ((g % 2 : Nat) : Int) ≠ 0 then (p.doWrite ((g % 2 : Nat) : Int) (manB g), p.wcode ((g % 2 : Nat) : Int))
 else ((p.doWrite ((g % 2 : Nat) : Int) (manB g)).doSync, (p.doWrite ((g % 2 : Nat) : Int) (manB g)).scode)
structure Up (p : DP) : Prop where
 fuse : p.fuse = -1
 down : p.down = false
section
variable {p : DP}
theorem Up.wcode (h : Up p) {a : Int} (h1 : 0 ≤ a) (h2 : a < p.size) : p.wcode a = 0 := by
 unfold DP.wcode DP.within
 rw [decide_eq_true ⟨h1, h2⟩, if_pos rfl, if_neg (by rw [h.fuse, h.down]; simp)]
theorem Up.write (h : Up p) (a : Int) (s : List Int) : Up (p.doWrite a s) := by
 unfold DP.doWrite
 split
 · rw [if_neg (by rw [h.fuse, h.down]; simp)]
   exact ⟨by show (if 0 < p.fuse then p.fuse - 1 else p.fuse) = -1; rw [h.fuse]; rfl, h.down⟩
 · exact h
theorem Up.sync (h : Up p) : Up p.doSync := by
 unfold DP.doSync
 rw [h.down, if_neg (by simp)]
 exact ⟨h.fuse, h.down⟩
theorem Up.scode (h : Up p) : p.scode = 0 := by unfold DP.scode; rw [h.down]; rfl
theorem Up.new (n : Nat) : Up (DP.new n) := ⟨rfl, rfl⟩
theorem Up.wipeN (h : Up p) {l : LG} (hf : l.first + l.size ≤ p.size) : ∀ k, l.used + k ≤ l.size → (wipeN p l k).2.2 = 0 ∧ Up (wipeN p l k).1 ∧ (wipeN p l k).1.size = p.size
 | 0, _ => ⟨rfl, h, rfl⟩
 | k + 1, hk => by
  obtain ⟨h1, h2, h3⟩ := h.wipeN hf k (by omega)
  unfold Go.Proofs.YtfchcdbfalgdlaaGreatDoor.wipeN
  simp only
  rw [if_neg (by rw [h1]; simp)]
  split
  · exact ⟨h2.wcode (by omega) (by rw [h3]; omega), h2.write _ _, by show (DP.doWrite _ _ _).size = _; rw [DP.doWrite_size, h3]⟩
  · exact ⟨h1, h2, h3⟩
theorem Up.wipe (h : Up p) {l : LG} (hf : l.first + l.size ≤ p.size) (hu : l.used ≤ l.size) : (wipeL p l).2 = 0 ∧ Up (wipeL p l).1 ∧ (wipeL p l).1.size = p.size := by
 obtain ⟨h1, h2, h3⟩ := h.wipeN hf (l.size - l.used) (by omega)
 unfold wipeL
 simp only
 rw [if_neg (by rw [h1]; simp)]
 split
 · exact ⟨h2.scode, h2.sync, by show (DP.doSync _).size = _; rw [DP.doSync_size, h3]⟩
 · exact ⟨rfl, h2, h3⟩
theorem Up.proc (h : Up p) (g : Nat) (hs : 2 ≤ p.size) : (procS p g).2 = 0 ∧ Up (procS p g).1 ∧ (procS p g).1.size = p.size := by
 have hw := h.wcode (a := ((g % 2 : Nat) : Int)) (by omega) (by omega)
 unfold procS
 rw [if_neg (by rw [hw]; simp)]
 exact ⟨(h.write _ _).scode, (h.write _ _).sync, by show (DP.doSync _).size = _; rw [DP.doSync_size, DP.doWrite_size]⟩
end
theorem hlf_fit {n g : Nat} (h : 4 ≤ n) : 1 ≤ hlf n ∧ fst0 g n + hlf n ≤ n ∧ 2 ≤ fst0 g n := by
 unfold fst0 hlf
 have h1 : g % 2 = 0 ∨ g % 2 = 1 := by omega
 rcases h1 with h1 | h1 <;> rw [h1] <;> omega
theorem fst0_apart {n g g' : Nat} (h : g % 2 ≠ g' % 2) {x y : Nat} (hx : x < hlf n) (hy : y < hlf n) : fst0 g n + x ≠ fst0 g' n + y := by
 unfold fst0
 have h1 : g % 2 = 0 ∨ g % 2 = 1 := by omega
 have h2 : g' % 2 = 0 ∨ g' % 2 = 1 := by omega
 rcases h1 with h1 | h1 <;> rcases h2 with h2 | h2 <;> rw [h1, h2] <;> omega
def fmtS (p : DP) : DP := (procS (wipeL ((p.doWrite 0 sec0).doWrite 1 sec0).doSync (log0 p.size 1)).1 1).1
theorem fmt_up {p : DP} (h : Up p) (hs : 4 ≤ p.size) : Up (fmtS p) ∧ (fmtS p).size = p.size := by
 have h1 := ((h.write 0 sec0).write 1 sec0).sync
 have hz : ((p.doWrite 0 sec0).doWrite 1 sec0).doSync.size = p.size := by rw [DP.doSync_size, DP.doWrite_size, DP.doWrite_size]
 have hf := hlf_fit (g := 1) hs
 obtain ⟨-, h2, h3⟩ := h1.wipe (l := log0 p.size 1) (by rw [hz]; exact hf.2.1) (Nat.zero_le _)
 obtain ⟨-, h4, h5⟩ := h2.proc 1 (by rw [h3, hz]; omega)
 exact ⟨h4, by show (procS _ 1).1.size = _; rw [h5, h3, hz]⟩
def doP (T : CT) (c : PC) : CT := if c.d then cdel T c.k else cput T c.k c.v
def doPs (T : CT) (L : List PC) : CT := L.foldl doP T
theorem doPs_of (T : CT) (L : List Ch) : doCs T L = doPs T (L.map pcOf) := by
 induction L generalizing T with
 | nil => rfl
 | cons c L ih => exact ih (doC T c)
def chP (c : PC) : List Int := [if !c.d then 1 else 0] ++ beL 2 c.k.length ++ c.k ++ (if c.d then [] else beL 2 c.v.length ++ c.v)
def putP (L : List PC) : List Int := beL 2 L.length ++ L.flatMap chP
theorem chP_of {c : Ch} (h : c.k.xs.length = c.k.n ∧ c.v.xs.length = c.v.n) : chB c = chP (pcOf c) := by
 unfold chB chP pcOf
 rw [h.1, h.2]
theorem putP_of {L : List Ch} (h : LenOk L) : putB L = putP (L.map pcOf) := by
 have key : ∀ M : List Ch, LenOk M → M.flatMap chB = (M.map pcOf).flatMap chP := by
  intro M
  induction M with
  | nil => intro _; rfl
  | cons c M ih =>
   intro hM
   rw [List.flatMap_cons, List.map_cons, List.flatMap_cons, chP_of (hM c (List.mem_cons_self ..)), ih fun x hx => hM x (List.mem_cons_of_mem _ hx)]
 unfold putB putP
 rw [key L h, List.length_map]
def kvP (e : List Int × List Int) : PC := ⟨e.1, e.2, false⟩
def batP (T : CT) : List (List PC) := (rws (spl sz1 (sct_l19 T))).map (List.map kvP)
def prsAll (T : CT) : List (List Int) → Option CT
 | [] => some T
 | b :: bs => match parseB b with
  | some L => prsAll (doPs T L) bs
  | none => none
structure SW where
 p : DP
 l : LG
 t : CT
 gen : Nat
 broken : Bool
noncomputable def opnS (p : DP) : DP × Int × Option SW :=
 if p.size < 4 then (p, 1, none) else if cnt p = 0 then (p, 2, none) else
 let r := runL p (log0 p.size (cnt p))
 let q := (wipeL p r.1).1
 match prsAll [] r.2 with
 | some t => (q, 0, some ⟨q, r.1, t, cnt p, false⟩)
 | none => (q, 2, none)
def apps (p : DP) (l : LG) : List (List Int) → DP × LG × Int
 | [] => (p, l, 0)
 | b :: bs => if (appL p l b).2.2 ≠ 0 then appL p l b else apps (appL p l b).1 (appL p l b).2.1 bs
def anewS (s : SW) : DP × LG × Int :=
 let l0 := log0 s.p.size (s.gen + 1)
 let r := wipeL s.p l0
 if r.2 ≠ 0 then (r.1, l0, r.2) else
 let a := apps r.1 l0 ((batP s.t).map putP)
 if a.2.2 ≠ 0 then a else
 if a.1.scode ≠ 0 then (a.1.doSync, a.2.1, a.1.scode) else
 ((procS a.1.doSync (s.gen + 1)).1, a.2.1, (procS a.1.doSync (s.gen + 1)).2)
def brk (c : Int) : Bool := decide (c ≠ 0 ∧ c ≠ 8 ∧ c ≠ 9)
def swpS (s : SW) : SW × Int :=
 if s.broken = true then (s, 10) else if s.gen = 4294967295 then (s, 9) else
 let r := anewS s
 if r.2.2 ≠ 0 then ({ s with p := r.1, broken := brk r.2.2 }, r.2.2) else ({ s with p := r.1, l := r.2.1, gen := s.gen + 1 }, 0)
def addS (s : SW) (b : List Int) : SW × Int :=
 if (appL s.p s.l b).2.2 ≠ 8 then ({ s with p := (appL s.p s.l b).1, l := (appL s.p s.l b).2.1 }, (appL s.p s.l b).2.2) else
 let r := swpS { s with p := (appL s.p s.l b).1, l := (appL s.p s.l b).2.1 }
 if r.2 ≠ 0 then r else ({ r.1 with p := (appL r.1.p r.1.l b).1, l := (appL r.1.p r.1.l b).2.1 }, (appL r.1.p r.1.l b).2.2)
def cmtS (s : SW) (L : List PC) : SW × Int :=
 if pcsOk L = false then (s, 2) else if s.broken = true then (s, 10) else if 65536 < (putP L).length then (s, 3) else
 let r := addS s (putP L)
 if r.2 ≠ 0 then ({ r.1 with broken := r.1.broken || brk r.2 }, r.2) else
 if r.1.p.scode ≠ 0 then ({ r.1 with p := r.1.p.doSync, broken := r.1.broken || brk r.1.p.scode }, r.1.p.scode) else
 ({ r.1 with p := r.1.p.doSync, t := doPs r.1.t L }, 0)
def needS (s : SW) : Nat := ((batP s.t).map fun L => secN (putP L).length).sum
end Go.Proofs.YtfchcdbfalgdlaaGreatDoor
