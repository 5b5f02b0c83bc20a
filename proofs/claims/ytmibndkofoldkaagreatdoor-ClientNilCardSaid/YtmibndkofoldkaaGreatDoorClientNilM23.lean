/- Texts of one proof, one behind the other: RcK. No condition but each one's own. -/
import Derived.Test.YtmibndkofoldkaaGreatDoorClientNilM21
import Derived.Test.YtmibndkofoldkaaGreatDoorClientNilM22
namespace Go.Proofs.YtmibndkofoldkaaGreatDoor
set_option linter.unusedVariables false
set_option linter.unusedSimpArgs false
set_option linter.constructorNameAsVariable false
open Go.RowKit Go.Sort
structure KR where
 number : Nat
 now : Rc
 broken : Bool
def KR.new : KR := ⟨0, rc0, false⟩
def slotA (n i : Nat) : Int := ((2 * (n % 2) + i : Nat) : Int)
def sec2 (all : List Int) (i : Nat) : List Int := (all.drop (64 * i)).take 64
def writeQ (p : DP) (n : Nat) (all : List Int) : Nat → DP × Int
 | 0 => (p, 0)
 | k + 1 => let r := writeQ p n all k
  if r.2 ≠ 0 then r else (r.1.doWrite (slotA n k) (sec2 all k), r.1.wcode (slotA n k))
def writeP (p : DP) (n : Nat) (all : List Int) : DP × Int :=
 let r := writeQ p n all 2
 if r.2 ≠ 0 then r else (r.1.doSync, r.1.scode)
theorem writeQ_go {p : DP} {n : Nat} {all : List Int} {k : Nat} (h : (writeQ p n all k).2 = 0) : writeQ p n all (k + 1) = ((writeQ p n all k).1.doWrite (slotA n k) (sec2 all k), (writeQ p n all k).1.wcode (slotA n k)) := by
 simp only [writeQ]
 rw [if_neg (by rw [h]; simp)]
theorem writeQ_bad {p : DP} {n : Nat} {all : List Int} {k : Nat} (h : (writeQ p n all k).2 ≠ 0) : writeQ p n all (k + 1) = writeQ p n all k := by
 simp only [writeQ]
 rw [if_pos h]
theorem sec2_ok {all : List Int} (h : all.length = 128) (hb : Byt all) {i : Nat} (hi : i < 2) : SecOk (sec2 all i) := ⟨by unfold sec2; rw [List.length_take, List.length_drop]; omega, fun x hx => hb x (List.mem_of_mem_drop (List.mem_of_mem_take hx))⟩
theorem sec2_range {w : World} {g T : Nat} {all : List Int} {i : Nat} (hb : Blk w g T (secA all)) : w.rangeAt g (64 * i) (u8s (sec2 all i)) := fun j v hv => by
 rw [hb.cell]
 have hj := (List.getElem?_eq_some_iff.1 hv).1
 rw [u8s_len] at hj
 unfold secA
 rw [List.getElem?_toArray, ← hv]
 unfold u8s sec2 at *
 rw [List.length_take] at hj
 rw [List.getElem?_map, List.getElem?_map, List.getElem?_take_of_lt (by omega), List.getElem?_drop]
def saveP (p : DP) (k : KR) (r : Rc) : DP × KR × Int :=
 if ¬ r.Right then (p, k, 2) else if k.broken = true then (p, k, 10) else if k.number = 18446744073709551615 then (p, k, 9) else
 let x := writeP p (k.number + 1) (putL (k.number + 1) r)
 if x.2 ≠ 0 then (x.1, { k with broken := true }, x.2) else (x.1, ⟨k.number + 1, r, k.broken⟩, 0)
def slotB (p : DP) (s : Nat) : List Int := p.rget ((2 * s : Nat) : Int) ++ p.rget ((2 * s + 1 : Nat) : Int)
theorem slotB_ok {p : DP} (h : p.Ok) (s : Nat) : (slotB p s).length = 128 ∧ Byt (slotB p s) := ⟨by unfold slotB; rw [List.length_append, (h.rget _).1, (h.rget _).1], fun x hx => (List.mem_append.1 hx).elim ((h.rget _).2 x) ((h.rget _).2 x)⟩
def takeK (k : KR) (n : Nat) (r : Rc) : KR := if k.number < n then { k with number := n, now := r } else k
def openP (p : DP) : KR := takeK (takeK KR.new (getN 0 (slotB p 0)) (getR 0 (slotB p 0))) (getN 1 (slotB p 1)) (getR 1 (slotB p 1))
structure KR.Ok (k : KR) : Prop where
 now : k.now.Ok
 num : k.number < 18446744073709551616
theorem KR.new_ok : KR.new.Ok := ⟨rc0_ok, by decide⟩
def kpA (k : KR) (gd : Nat) : List Value := [.pointer (some ⟨gd, 0, none⟩), .int .u64 k.number] ++ k.now.cells.toList ++ [.bool k.broken]
theorem Rc.cells_len {r : Rc} (h : r.root.length = 32) : r.cells.toList.length = 37 := by rw [Array.length_toList, Rc.size h]
structure Kp (w : World) (gk gd : Nat) (k : KR) : Prop where
 blk : Blk w gk 214 (kpA k gd).toArray
 ok : k.Ok
theorem Kp.fr {S : Nat → Prop} {w w' : World} {gk gd : Nat} {k : KR} (h : Kp w gk gd k) (hF : Fr S w w') (hs : ¬ S gk) : Kp w' gk gd k := ⟨h.blk.fr hF hs, h.ok⟩
theorem Kp.new {w w' : World} {gk gd : Nat} {k : KR} (h : Kp w gk gd k) (hN : New w w') : Kp w' gk gd k := ⟨hN.blk h.blk, h.ok⟩
theorem Kp.c0 {w : World} {gk gd : Nat} {k : KR} (h : Kp w gk gd k) : w.cell? ⟨gk, 0, none⟩ = some (.pointer (some ⟨gd, 0, none⟩)) := h.blk.cell 0
theorem Kp.c1 {w : World} {gk gd : Nat} {k : KR} (h : Kp w gk gd k) : w.cell? ⟨gk, 1, none⟩ = some (.int .u64 k.number) := h.blk.cell 1
theorem Kp.c3 {w : World} {gk gd : Nat} {k : KR} (h : Kp w gk gd k) : w.cell? ⟨gk, 39, none⟩ = some (.bool k.broken) := by
 rw [h.blk.cell 39, List.getElem?_toArray]
 unfold kpA
 rw [List.getElem?_append_right (by simp [Rc.size h.ok.now.len])]
 simp [Rc.size h.ok.now.len]
theorem kpA_len {k : KR} (h : k.now.root.length = 32) (gd : Nat) : (kpA k gd).length = 40 := by simp [kpA, Rc.size h]
theorem Kp.nowAt {w : World} {gk gd : Nat} {k : KR} (h : Kp w gk gd k) : w.rangeAt gk 2 k.now.cells.toList := fun j v hv => by
 rw [h.blk.cell, List.getElem?_toArray]
 have hj := (List.getElem?_eq_some_iff.1 hv).1
 unfold kpA
 rw [List.append_assoc, List.getElem?_append_right (by simp), List.getElem?_append_left (by simpa using hj)]
 simpa using hv
theorem Kp.setNum {w : World} {gk gd : Nat} {k : KR} (h : Kp w gk gd k) (n : Nat) (hn : n < 18446744073709551616) : Kp (w.setCell ⟨gk, 1, none⟩ (.int .u64 n)) gk gd { k with number := n } :=
 ⟨by
  have := h.blk.set 1 (.int .u64 n)
  rw [List.setIfInBounds_toArray] at this
  exact this, ⟨h.ok.now, hn⟩⟩
theorem Kp.setBroken {w : World} {gk gd : Nat} {k : KR} (h : Kp w gk gd k) (b : Bool) : Kp (w.setCell ⟨gk, 39, none⟩ (.bool b)) gk gd { k with broken := b } :=
 ⟨by
  have := h.blk.set 39 (.bool b)
  rw [List.setIfInBounds_toArray] at this
  have e : (kpA k gd).set 39 (.bool b) = kpA { k with broken := b } gd := by
   unfold kpA
   rw [List.set_append_right _ _ (by simp [Rc.size h.ok.now.len])]
   simp [Rc.size h.ok.now.len]
  rw [e] at this
  exact this, ⟨h.ok.now, h.ok.num⟩⟩
theorem kpA_now {k : KR} (h : k.now.root.length = 32) (gd : Nat) (r : Rc) (hr : r.root.length = 32) : splice (kpA k gd) 2 r.cells.toList = kpA { k with now := r } gd := by
 unfold splice kpA
 rw [Rc.cells_len hr]
 have h5 : ([Value.pointer (some ⟨gd, 0, none⟩), .int .u64 k.number] ++ k.now.cells.toList ++ [Value.bool k.broken]).drop (2 + 37) = [Value.bool k.broken] := by
  rw [List.drop_append_of_le_length (by simp [Rc.size h]), List.drop_of_length_le (by simp [Rc.size h])]
  rfl
 rw [h5]
 simp
set_option maxHeartbeats 1000000
set_option maxRecDepth 100000
end Go.Proofs.YtmibndkofoldkaaGreatDoor
