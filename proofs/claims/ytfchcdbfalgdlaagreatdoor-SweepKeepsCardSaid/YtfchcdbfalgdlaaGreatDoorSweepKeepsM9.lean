/- Texts of one proof, one behind the other: LgP, LgT. No condition but each one's own. -/
import Derived.Test.YtfchcdbfalgdlaaGreatDoorSweepKeepsM6
import Derived.Test.YtfchcdbfalgdlaaGreatDoorSweepKeepsM4
import Derived.Test.YtfchcdbfalgdlaaGreatDoorSweepKeepsM3
import Derived.Test.YtfchcdbfalgdlaaGreatDoorSweepKeepsM5
import Derived.Test.YtfchcdbfalgdlaaGreatDoorSweepKeepsM8
namespace Go.Proofs.YtfchcdbfalgdlaaGreatDoor
set_option linter.unusedVariables false
set_option linter.unusedSimpArgs false
set_option linter.constructorNameAsVariable false
open Go.RowKit Go.Sort
structure LG where
 first : Nat
 size : Nat
 gen : Nat
 used : Nat
 tag : List Int
 broken : Bool
structure LG.Ok (l : LG) (n : Nat) : Prop where
 fit : l.first + l.size ≤ n
 gen : l.gen < 4294967296
 used : l.used ≤ l.size
 len : l.tag.length = 16
 byt : Byt l.tag
def secN (n : Nat) : Nat := (secs n).toNat
theorem secN_le (n : Nat) : secN n ≤ 1193 := by have := secs_le n; unfold secN; omega
theorem secs_N (n : Nat) : secs (n : Int) = (secN n : Int) := by have := secs_le n; unfold secN; omega
theorem secN_in {n : Nat} (h1 : 1 ≤ n) (h2 : n ≤ 65536) : secN n = (n + 74) / 55 := by unfold secN; rw [secs_in (by omega) (by omega)]; omega
theorem secN_pos {n : Nat} (h : secN n ≠ 0) : 1 ≤ n ∧ n ≤ 65536 ∧ secN n = (n + 74) / 55 := by
 by_cases h1 : 1 ≤ n ∧ n ≤ 65536
 · exact ⟨h1.1, h1.2, secN_in h1.1 h1.2⟩
 · exact absurd (by unfold secN; rw [secs_0 (by omega)]; rfl) h
def tagL (tag : List Int) (gen : Nat) (b : List Int) : List Int := (hsh (tag ++ beL 4 gen ++ b)).take 16
theorem tagL_len (t : List Int) (g : Nat) (b : List Int) : (tagL t g b).length = 16 := by simp [tagL, hsh_len]
theorem tagL_byt (t : List Int) (g : Nat) (b : List Int) : Byt (tagL t g b) := fun x hx => hsh_byt _ x (List.mem_of_mem_take hx)
def LG.hdr (l : LG) (i : Nat) : List Int := beL 4 l.gen ++ beL 4 (l.used + i) ++ [if i = 0 then 1 else 2]
theorem LG.hdr_len (l : LG) (i : Nat) : (l.hdr i).length = 9 := by simp [LG.hdr, beL_len]
theorem LG.hdr_byt (l : LG) (i : Nat) : Byt (l.hdr i) := by
 intro x hx
 unfold LG.hdr at hx
 simp only [List.mem_append, List.mem_singleton] at hx
 rcases hx with (hx | hx) | hx
 · exact beL_byt _ _ x hx
 · exact beL_byt _ _ x hx
 · rw [hx]; split <;> omega
def sct (p : DP) (l : LG) (i : Nat) : List Int := p.rget ((l.first + l.used + i : Nat) : Int)
theorem sct_ok {p : DP} (h : p.Ok) (l : LG) (i : Nat) : SecOk (sct p l i) := h.rget _
def frameL (p : DP) (l : LG) (k : Nat) : List Int := (List.range k).flatMap fun i => (sct p l i).drop 9
theorem frameL_succ (p : DP) (l : LG) (k : Nat) : frameL p l (k + 1) = frameL p l k ++ (sct p l k).drop 9 := by simp [frameL, List.range_succ]
theorem frameL_len {p : DP} (h : p.Ok) (l : LG) : ∀ k, (frameL p l k).length = 55 * k
 | 0 => rfl
 | k + 1 => by
  have := (sct_ok h l k).1
  rw [frameL_succ, List.length_append, List.length_drop, frameL_len h l k, this]
  omega
theorem frameL_byt {p : DP} (h : p.Ok) (l : LG) (k : Nat) : Byt (frameL p l k) := by
 intro x hx
 obtain ⟨i, -, hi⟩ := List.mem_flatMap.1 hx
 exact (sct_ok h l i).2 x (List.mem_of_mem_drop hi)
def LG.many (l : LG) (p : DP) : Nat := valL (((sct p l 0).drop 9).take 4)
def LG.body (l : LG) (p : DP) : List Int := ((frameL p l (secN (l.many p))).drop 20).take (l.many p)
structure LG.Next (l : LG) (p : DP) : Prop where
 room : l.used < l.size
 pos : secN (l.many p) ≠ 0
 fit : l.used + secN (l.many p) ≤ l.size
 hdr : ∀ i, i < secN (l.many p) → (sct p l i).take 9 = l.hdr i
 tag : ((frameL p l (secN (l.many p))).drop 4).take 16 = tagL l.tag l.gen (l.body p)
open Classical in
noncomputable def nextL (p : DP) (l : LG) : Option (List Int) := if l.Next p then some (l.body p) else none
theorem nextL_some {p : DP} {l : LG} (h : l.Next p) : nextL p l = some (l.body p) := by unfold nextL; exact if_pos h
theorem nextL_none {p : DP} {l : LG} (h : ¬ l.Next p) : nextL p l = none := by unfold nextL; exact if_neg h
def LG.step (l : LG) (b : List Int) : LG := { l with used := l.used + secN b.length, tag := tagL l.tag l.gen b }
theorem LG.body_len {p : DP} (h : p.Ok) {l : LG} (hp : secN (l.many p) ≠ 0) : (l.body p).length = l.many p := by
 have h1 := secN_pos hp
 unfold LG.body
 rw [List.length_take, List.length_drop, frameL_len h]
 omega
theorem LG.body_byt {p : DP} (h : p.Ok) (l : LG) : Byt (l.body p) := fun x hx => frameL_byt h l _ x (List.mem_of_mem_drop (List.mem_of_mem_take hx))
theorem LG.Next.ok {p : DP} {l : LG} {n : Nat} (h : l.Next p) (hp : p.Ok) (hl : l.Ok n) : (l.step (l.body p)).Ok n :=
 ⟨hl.fit, hl.gen, by have := h.fit; show l.used + secN (l.body p).length ≤ l.size; rw [LG.body_len hp h.pos]; exact this, tagL_len _ _ _, tagL_byt _ _ _⟩
noncomputable def runs (p : DP) (l : LG) : Nat → LG × List (List Int)
 | 0 => (l, [])
 | k + 1 => match nextL p (runs p l k).1 with | some b => ((runs p l k).1.step b, (runs p l k).2 ++ [b]) | none => runs p l k
theorem runs_some {p : DP} {l : LG} {k : Nat} {b : List Int} (h : nextL p (runs p l k).1 = some b) : runs p l (k + 1) = ((runs p l k).1.step b, (runs p l k).2 ++ [b]) := by
 simp only [runs, h]
theorem runs_none {p : DP} {l : LG} {k : Nat} (h : nextL p (runs p l k).1 = none) : ∀ j, runs p l (k + j) = runs p l k
 | 0 => rfl
 | j + 1 => by
  have ih := runs_none h j
  rw [← Nat.add_assoc]
  show (match nextL p (runs p l (k + j)).1 with | some b => ((runs p l (k + j)).1.step b, (runs p l (k + j)).2 ++ [b]) | none => runs p l (k + j)) = _
  rw [ih, h]
theorem runs_ok {p : DP} {l : LG} {n : Nat} (hp : p.Ok) (h : l.Ok n) : ∀ k, (runs p l k).1.Ok n ∧ (runs p l k).1.size = l.size ∧ (runs p l k).1.first = l.first ∧ (runs p l k).1.gen = l.gen ∧ (runs p l k).1.broken = l.broken
 | 0 => ⟨h, rfl, rfl, rfl, rfl⟩
 | k + 1 => by
  obtain ⟨h1, h2, h3, h4, h5⟩ := runs_ok hp h k
  by_cases hx : (runs p l k).1.Next p
  · rw [runs_some (nextL_some hx)]
    exact ⟨hx.ok hp h1, h2, h3, h4, h5⟩
  · have := runs_none (nextL_none hx) 1
    rw [this]
    exact ⟨h1, h2, h3, h4, h5⟩
noncomputable def runL (p : DP) (l : LG) : LG × List (List Int) := runs p l (l.size + 1)
def wipeN (p : DP) (l : LG) : Nat → DP × Bool × Int
 | 0 => (p, false, 0)
 | k + 1 => let r := wipeN p l k
  if r.2.2 ≠ 0 then r else
  if valL ((sct r.1 l k).take 4) = l.gen then (r.1.doWrite ((l.first + l.used + k : Nat) : Int) sec0, (if r.1.wcode ((l.first + l.used + k : Nat) : Int) = 0 then true else r.2.1), r.1.wcode ((l.first + l.used + k : Nat) : Int))
  else r
def wipeL (p : DP) (l : LG) : DP × Int :=
 let r := wipeN p l (l.size - l.used)
 if r.2.2 ≠ 0 then (r.1, r.2.2) else if r.2.1 = true then (r.1.doSync, r.1.scode) else (r.1, 0)
def LG.frame (l : LG) (b : List Int) : List Int := beL 4 b.length ++ tagL l.tag l.gen b ++ b
theorem LG.frame_len (l : LG) (b : List Int) : (l.frame b).length = b.length + 20 := by simp [LG.frame, beL_len, tagL_len]; omega
theorem LG.frame_byt (l : LG) {b : List Int} (hb : Byt b) : Byt (l.frame b) := by
 intro x hx
 unfold LG.frame at hx
 simp only [List.mem_append] at hx
 rcases hx with (hx | hx) | hx
 · exact beL_byt _ _ x hx
 · exact tagL_byt _ _ _ x hx
 · exact hb x hx
def LG.raw (l : LG) (b : List Int) (i : Nat) : List Int := l.hdr i ++ ((l.frame b).drop (55 * i)).take 55
def pad64 (x : List Int) : List Int := x ++ List.replicate (64 - x.length) 0
def LG.sec (l : LG) (b : List Int) (i : Nat) : List Int := pad64 (l.raw b i)
theorem LG.raw_len (l : LG) (b : List Int) (i : Nat) : (l.raw b i).length ≤ 64 := by
 unfold LG.raw
 rw [List.length_append, LG.hdr_len, List.length_take]
 omega
theorem pad64_len {x : List Int} (h : x.length ≤ 64) : (pad64 x).length = 64 := by simp [pad64]; omega
theorem pad64_byt {x : List Int} (h : Byt x) : Byt (pad64 x) := by
 intro y hy
 unfold pad64 at hy
 rcases List.mem_append.1 hy with hy | hy
 · exact h y hy
 · have := List.eq_of_mem_replicate hy
   omega
theorem LG.raw_byt (l : LG) {b : List Int} (hb : Byt b) (i : Nat) : Byt (l.raw b i) := by
 intro x hx
 rcases List.mem_append.1 hx with hx | hx
 · exact l.hdr_byt i x hx
 · exact l.frame_byt hb x (List.mem_of_mem_drop (List.mem_of_mem_take hx))
theorem LG.sec_ok (l : LG) {b : List Int} (hb : Byt b) (i : Nat) : SecOk (l.sec b i) := ⟨pad64_len (l.raw_len b i), pad64_byt (l.raw_byt hb i)⟩
def writeN (p : DP) (l : LG) (b : List Int) : Nat → DP × Int
 | 0 => (p, 0)
 | k + 1 => let r := writeN p l b k
  if r.2 ≠ 0 then r else (r.1.doWrite ((l.first + l.used + k : Nat) : Int) (l.sec b k), r.1.wcode ((l.first + l.used + k : Nat) : Int))
def appL (p : DP) (l : LG) (b : List Int) : DP × LG × Int :=
 if secN b.length = 0 then (p, l, 2) else if l.broken = true then (p, l, 10) else if l.size - l.used < secN b.length then (p, l, 8) else
 let r := writeN p l b (secN b.length)
 if r.2 ≠ 0 then (r.1, { l with broken := true }, r.2) else (r.1, l.step b, 0)
def lgA (l : LG) (gd : Nat) : List Value := [.pointer (some ⟨gd, 0, none⟩), .int .i64 l.first, .int .i64 l.size, .int .u32 l.gen, .int .i64 l.used] ++ u8s l.tag ++ [.bool l.broken]
structure Lg (w : World) (gl gd : Nat) (l : LG) (n : Nat) : Prop where
 blk : Blk w gl 177 (lgA l gd).toArray
 ok : l.Ok n
theorem Lg.fr {S : Nat → Prop} {w w' : World} {gl gd n : Nat} {l : LG} (h : Lg w gl gd l n) (hF : Fr S w w') (hs : ¬ S gl) : Lg w' gl gd l n := ⟨h.blk.fr hF hs, h.ok⟩
theorem Lg.new {w w' : World} {gl gd n : Nat} {l : LG} (h : Lg w gl gd l n) (hN : New w w') : Lg w' gl gd l n := ⟨hN.blk h.blk, h.ok⟩
theorem Lg.c0 {w : World} {gl gd n : Nat} {l : LG} (h : Lg w gl gd l n) : w.cell? ⟨gl, 0, none⟩ = some (.pointer (some ⟨gd, 0, none⟩)) := h.blk.cell 0
theorem Lg.c1 {w : World} {gl gd n : Nat} {l : LG} (h : Lg w gl gd l n) : w.cell? ⟨gl, 1, none⟩ = some (.int .i64 l.first) := h.blk.cell 1
theorem Lg.c2 {w : World} {gl gd n : Nat} {l : LG} (h : Lg w gl gd l n) : w.cell? ⟨gl, 2, none⟩ = some (.int .i64 l.size) := h.blk.cell 2
theorem Lg.c3 {w : World} {gl gd n : Nat} {l : LG} (h : Lg w gl gd l n) : w.cell? ⟨gl, 3, none⟩ = some (.int .u32 l.gen) := h.blk.cell 3
theorem Lg.c4 {w : World} {gl gd n : Nat} {l : LG} (h : Lg w gl gd l n) : w.cell? ⟨gl, 4, none⟩ = some (.int .i64 l.used) := h.blk.cell 4
theorem Lg.cb {w : World} {gl gd n : Nat} {l : LG} (h : Lg w gl gd l n) : w.cell? ⟨gl, 21, none⟩ = some (.bool l.broken) := by
 rw [h.blk.cell 21, List.getElem?_toArray]
 unfold lgA
 rw [List.getElem?_append_right (by simp [u8s_len, h.ok.len])]
 simp [u8s_len, h.ok.len]
theorem lgA_len {l : LG} (h : l.tag.length = 16) (gd : Nat) : (lgA l gd).length = 22 := by simp [lgA, u8s_len, h]
theorem Lg.tagAt {w : World} {gl gd n : Nat} {l : LG} (h : Lg w gl gd l n) : w.rangeAt gl 5 (u8s l.tag) := fun j v hv => by
 rw [h.blk.cell, List.getElem?_toArray]
 have hj := (List.getElem?_eq_some_iff.1 hv).1
 unfold lgA
 rw [List.append_assoc, List.getElem?_append_right (by simp), List.getElem?_append_left (by simpa using hj)]
 simpa using hv
theorem Lg.setUsed {w : World} {gl gd n : Nat} {l : LG} (h : Lg w gl gd l n) (u : Nat) (hu : u ≤ l.size) : Lg (w.setCell ⟨gl, 4, none⟩ (.int .i64 u)) gl gd { l with used := u } n :=
 ⟨by
  have := h.blk.set 4 (.int .i64 u)
  rw [List.setIfInBounds_toArray] at this
  exact this, ⟨h.ok.fit, h.ok.gen, hu, h.ok.len, h.ok.byt⟩⟩
theorem Lg.setBroken {w : World} {gl gd n : Nat} {l : LG} (h : Lg w gl gd l n) (b : Bool) : Lg (w.setCell ⟨gl, 21, none⟩ (.bool b)) gl gd { l with broken := b } n :=
 ⟨by
  have := h.blk.set 21 (.bool b)
  rw [List.setIfInBounds_toArray] at this
  have e : (lgA l gd).set 21 (.bool b) = lgA { l with broken := b } gd := by
   unfold lgA
   rw [List.set_append_right _ _ (by simp [u8s_len, h.ok.len])]
   simp [u8s_len, h.ok.len]
  rw [e] at this
  exact this, ⟨h.ok.fit, h.ok.gen, h.ok.used, h.ok.len, h.ok.byt⟩⟩
theorem lgA_tag {l : LG} (h : l.tag.length = 16) (gd : Nat) (t : List Int) (ht : t.length = 16) : splice (lgA l gd) 5 (u8s t) = lgA { l with tag := t } gd := by
 unfold splice lgA
 rw [u8s_len, ht]
 have h5 : ([Value.pointer (some ⟨gd, 0, none⟩), .int .i64 l.first, .int .i64 l.size, .int .u32 l.gen, .int .i64 l.used] ++ u8s l.tag ++ [Value.bool l.broken]).drop (5 + 16) = [Value.bool l.broken] := by
  rw [List.drop_append_of_le_length (by simp [u8s_len, h]), List.drop_of_length_le (by simp [u8s_len, h])]
  rfl
 rw [h5]
 simp
theorem run_store_part {P : Program} {w : World} {g o : Nat} {T ty : TypeId} {cur cells : List Value} (hg : Blk w g T cur.toArray) (ho : o + cells.length ≤ cur.length) (hi : (P.info? ty).map (·.size) = some cells.length) (h1 : ∀ v ∈ cells, v.oneCell' = true) :
    ∃ w', (Instr.storeAt ty (.pointer (some ⟨g, o, none⟩)) (.agg cells.toArray)).run P w = .ok () w' ∧ Blk w' g T (splice cur o cells).toArray ∧ Fr (fun k => k = g) w w' := by
 have hs := run_storeCells_at (P := P) g o T cells 0 cur.toArray w hg (by simpa using ho) h1
 obtain ⟨r1, r2⟩ := setRow_blk (cs' := (cur.take o ++ (cells ++ cur.drop (o + cells.length))).toArray) hg
 refine ⟨_, ?_, r1, r2⟩
 cases hq : P.info? ty with
 | none => simp [hq] at hi
 | some i =>
  have hz : cells.length = i.size := by simp [hq] at hi; omega
  simp only [Nat.add_zero, List.append_assoc] at hs
  simp [Instr.storeAt, Instr.sureAddr, storeVar, sizeOf, typeInfo, hq, Value.cells, hz, hs, go_sem]
theorem wpList_store_part {P : Program} {w : World} {ops : Array Oper} {rest : List Oper} {o : Oper} {a : Act} {Q : Exit → Act → World → Prop} {g off : Nat} {T ty : TypeId} {cur cells : List Value} (hw : Region.wanted o (yielded ops a.tmps) = true) (x y : Operand) (ho : o.op = .store ty x y) (hx : a.eval x = .pointer (some ⟨g, off, none⟩)) (hy : a.eval y = .agg cells.toArray)
    (hg : Blk w g T cur.toArray) (hl : off + cells.length ≤ cur.length) (hi : (P.info? ty).map (·.size) = some cells.length) (h1 : ∀ v ∈ cells, v.oneCell' = true)
    (h : ∀ w', Blk w' g T (splice cur off cells).toArray → Fr (fun k => k = g) w w' → wpList P ops Q rest (a.put o.dst undef) w') : wpList P ops Q (o :: rest) a w :=
 wpList_want hw fun K hK => by
  obtain ⟨w', hrun, r1, r2⟩ := run_store_part (P := P) hg hl hi h1
  unfold Oper.wp execOp
  simp only [ho, hx, hy, Sem.run_bind, hrun, Result.andThen_ok, Sem.run_pure]
  exact hK _ _ (h w' r1 r2)
end Go.Proofs.YtfchcdbfalgdlaaGreatDoor
namespace Go.Proofs.YtfchcdbfalgdlaaGreatDoor
set_option linter.unusedVariables false
set_option linter.unusedSimpArgs false
set_option linter.constructorNameAsVariable false
open Go.RowKit Go.Sort
theorem hashInfo : (Tryz.prog.info? 211).map (fun i => (i.zero, i.size)) = some (some (.agg (secA (List.replicate 32 0))), 32) := by kernel_rfl
theorem wpList_arr {P : Program} {ops : Array Oper} {rest : List Oper} {o : Oper} {a : Act} {w : World} {Q : Exit → Act → World → Prop} {T e : TypeId} {n len cap : Nat} {A : Option Addr} (hw : Region.wanted o (yielded ops a.tmps) = true) (x : Operand) (hop : o.op = .sliceToArrayPointer T x) (hx : a.eval x = .slice A len cap)
    (hu : P.underlying T = some (.array n e)) (hn : n ≤ len) (h : wpList P ops Q rest (a.put o.dst (.pointer A)) w) : wpList P ops Q (o :: rest) a w :=
 wpList_want hw fun K hK => by
  unfold Oper.wp execOp
  simp only [hop, hx, Sem.run_bind, run_arrayAt (P := P) (w := w) T e n A len cap hu hn, Result.andThen_ok, Sem.run_pure]
  exact hK _ _ h
theorem u8_3 (n : Nat) : IntKind.u8.wrap ((n : Int) / 16777216) = ((byteAt n 3 : Nat) : Int) := by
 rw [show (n : Int) / 16777216 = ((n / 16777216 : Nat) : Int) from by simp, u8_wrap]
 rfl
theorem u8_2 (n : Nat) : IntKind.u8.wrap ((n : Int) / 65536) = ((byteAt n 2 : Nat) : Int) := by
 rw [show (n : Int) / 65536 = ((n / 65536 : Nat) : Int) from by simp, u8_wrap]
 rfl
theorem u8_1 (n : Nat) : IntKind.u8.wrap ((n : Int) / 256) = ((byteAt n 1 : Nat) : Int) := by
 rw [show (n : Int) / 256 = ((n / 256 : Nat) : Int) from by simp, u8_wrap]
 rfl
theorem u8_0 (n : Nat) : IntKind.u8.wrap (n : Int) = ((byteAt n 0 : Nat) : Int) := by
 rw [u8_wrap]
 unfold byteAt
 rw [Nat.pow_zero, Nat.div_one]
theorem secA_take (s : List Int) {n : Nat} (h : n ≤ s.length) : ∀ {w : World} {g T : Nat}, Blk w g T (secA s) → w.rangeAt g 0 (u8s (s.take n)) := fun hb j v hv => by
 rw [hb.cell, Nat.zero_add]
 have hj := (List.getElem?_eq_some_iff.1 hv).1
 rw [u8s_len, List.length_take] at hj
 unfold secA
 rw [List.getElem?_toArray, ← hv]
 unfold u8s
 rw [List.getElem?_map, List.getElem?_map, List.getElem?_take_of_lt (by omega)]
set_option maxHeartbeats 2000000 in
set_option maxRecDepth 100000 in
theorem tagged_any {q : Nat → Prop} (tag : List Int) (gen : Nat) (A : Option Addr) (n c : Nat) (b : List Int) (w : World) (hL : ShaIn 4 2 w) (hR : Rd q w 1 A n (u8s b)) (hb : Byt b) (ht : tag.length = 16) (htb : Byt tag) (hg : gen < 4294967296) (hn : n ≤ 400000000) :
    Calls Tryz.prog 143 #[.agg (secA tag), .int .u32 gen, .slice A n c] w fun e w' => e = .returned (.agg (secA (tagL tag gen b))) ∧ New w w' := by
 have HL := Lib.hid hL
 have HR := Lib.hid hR
 have HB := Lib.hid hb
 have HT := Lib.hid (And.intro ht htb)
 have HX : Hid (b.length = n) := Lib.hid (by have := hR.1; rw [u8s_len] at this; omega)
 have hsz : (secA (tagL tag gen b)).size = 16 := by rw [secA_size, tagL_len]
 have HSZ := Lib.hid hsz
 have HTL : Hid (tagL tag gen b = (hsh ([tag, beL 4 gen, b].flatten)).take 16) := Lib.hid (by simp [tagL])
 obtain ⟨TL, hTL⟩ : ∃ TL, TL = tagL tag gen b := ⟨_, rfl⟩
 rw [← hTL] at HSZ HTL ⊢
 obtain ⟨TA, hTA⟩ : ∃ TA, TA = secA tag := ⟨_, rfl⟩
 have HTA := Lib.hid hTA
 rw [← hTA]
 have v3 := u8_3 gen
 have v2 := u8_2 gen
 have v1 := u8_1 gen
 have v0 := u8_0 gen
 have hg' : (gen : Int) < 4294967296 := by omega
 clear hL hR hb ht htb hsz hTL hTA
 go_enter Tryz.func143, Tryz.ntmps143
 go_upto_region 1 with fail
 obtain ⟨w1, hw1⟩ : ∃ w1 : World, w1 = (w.alloc (.cells TA 175)).alloc (.cells #[.int .u8 0, .int .u8 0, .int .u8 0, .int .u8 0, .int .u8 0, .int .u8 0, .int .u8 0, .int .u8 0, .int .u8 0, .int .u8 0, .int .u8 0, .int .u8 0, .int .u8 0, .int .u8 0, .int .u8 0, .int .u8 0] 175) := ⟨_, rfl⟩
 obtain ⟨b3, hb3⟩ : ∃ b3, b3 = w.heap.size := ⟨_, rfl⟩
 obtain ⟨b6, hb6⟩ : ∃ b6, b6 = w.heap.size + 1 := ⟨_, rfl⟩
 have hz : (#[.int .u8 0, .int .u8 0, .int .u8 0, .int .u8 0, .int .u8 0, .int .u8 0, .int .u8 0, .int .u8 0, .int .u8 0, .int .u8 0, .int .u8 0, .int .u8 0, .int .u8 0, .int .u8 0, .int .u8 0, .int .u8 0] : Array Value) = secA (List.replicate 16 0) := by rfl
 have HN1 : Hid (New w w1) := Lib.hid (by rw [hw1]; exact New.al (New.al (New.refl _) _) _)
 have HB3 : Hid (Blk w1 b3 175 (secA tag)) := Lib.hid (by rw [hw1, hb3, HTA.out]; exact (Blk.new _ _ _).alloc _)
 have HB6 : Hid (Blk w1 b6 175 (secA (List.replicate 16 0))) := Lib.hid (by rw [hw1, hb6, ← hz]; exact Blk.new' _ _ _ (by simp))
 have HZ : Hid (b3 = w.heap.size ∧ b6 = w.heap.size + 1) := Lib.hid ⟨hb3, hb6⟩
 rw [← hw1, ← hb6, ← hb3]
 clear hw1 hb3 hb6 hz
 go_wp2_with fail
 obtain ⟨w2, hw2⟩ : ∃ w2 : World, w2 = (w1.alloc (.cells #[.int .u8 (byteAt gen 3 : Nat), .int .u8 (byteAt gen 2 : Nat), .int .u8 (byteAt gen 1 : Nat), .int .u8 (byteAt gen 0 : Nat)] 5)).alloc (.cells #[.slice (some ⟨b3, 0, none⟩) 16 16, .slice (some ⟨w1.heap.size, 0, none⟩) 4 4, .slice A n c] 33) := ⟨_, rfl⟩
 obtain ⟨bp, hbp⟩ : ∃ bp, bp = w1.heap.size + 1 := ⟨_, rfl⟩
 have HN2 : Hid (New w1 w2) := Lib.hid (by rw [hw2]; exact New.al (New.al (New.refl _) _) _)
 have HP : Hid (Parts w2 bp 0 [tag, beL 4 gen, b]) := Lib.hid ⟨fun i l hl => by
  have hB : Blk w2 bp 33 #[.slice (some ⟨b3, 0, none⟩) 16 16, .slice (some ⟨w1.heap.size, 0, none⟩) 4 4, .slice A n c] := by rw [hw2, hbp]; exact Blk.new' _ _ _ (by simp)
  have hG : Blk w2 w1.heap.size 5 #[.int .u8 (byteAt gen 3 : Nat), .int .u8 (byteAt gen 2 : Nat), .int .u8 (byteAt gen 1 : Nat), .int .u8 (byteAt gen 0 : Nat)] := by rw [hw2]; exact (Blk.new _ _ _).alloc _
  match i, hl with
  | 0, hl =>
   obtain rfl : tag = l := by simpa using hl
   refine ⟨HT.out.2, some ⟨b3, 0, none⟩, 16, ?_, ?_⟩
   · rw [HT.out.1]; exact hB.cell 0
   · have h := Rd.ofBlk (p := fun _ => True) (HN2.out.blk HB3.out) 1 tag.length (by rw [secA_size]; omega) trivial
     rw [secA_list] at h
     exact h
  | 1, hl =>
   obtain rfl : beL 4 gen = l := by simpa using hl
   refine ⟨beL_byt _ _, some ⟨w1.heap.size, 0, none⟩, 4, hB.cell 1, ?_⟩
   exact Rd.ofBlk (p := fun _ => True) hG 1 4 rfl trivial
  | 2, hl =>
   obtain rfl : b = l := by simpa using hl
   refine ⟨HB.out, A, c, ?_, ?_⟩
   · rw [HX.out]; exact hB.cell 2
   · rw [HX.out]; exact (HN2.out.rd (HN1.out.rd HR.out)).imp (fun _ _ => trivial)
  | (i + 3), hl => simp at hl⟩
 rw [← hw2, ← hbp]
 clear hw2 hbp v3 v2 v1 v0
 have hfl : ([tag, beL 4 gen, b].flatten).length = n + 20 := by
  have := HX.out
  have := HT.out.1
  simp [beL_len]
  omega
 refine (of_any bp 0 3 [tag, beL 4 gen, b] 3 rfl w2 ((HL.out.new HN1.out).new HN2.out) (by simp) HP.out (by simp) (by omega) (by simp)).mono ?_
 rintro e w3 ⟨rfl, hN3⟩
 obtain ⟨HS, hHS⟩ : ∃ HS, HS = hsh [tag, beL 4 gen, b].flatten := ⟨_, rfl⟩
 rw [← hHS] at HTL ⊢
 have hl32 : HS.length = 32 := by rw [hHS]; exact hsh_len _
 have HS32 := Lib.hid hl32
 have HN3 := Lib.hid hN3
 have hsz3 : (secA HS).size = 32 := by rw [secA_size, hl32]
 have HZ3 := Lib.hid hsz3
 clear hN3 hHS hfl hl32 hsz3
 have HB6w : Hid (Blk w3 b6 175 (secA (List.replicate 16 0))) := Lib.hid (HN3.out.blk (HN2.out.blk HB6.out))
 go_upto_region 2 with ((with_reducible refine atOp ⟨some 7, .alloc _, _, _, _, _⟩ ?_); refine wpList_newvar (s := HS) rfl rfl rfl _ _ rfl hashInfo rfl rfl rfl HS32.out ?_)
 obtain ⟨w4, hw4⟩ : ∃ w4 : World, w4 = w3.alloc (.cells (secA HS) 211) := ⟨_, rfl⟩
 obtain ⟨b7, hb7⟩ : ∃ b7, b7 = w3.heap.size := ⟨_, rfl⟩
 have HB7 : Hid (Blk w4 b7 211 (secA HS)) := Lib.hid (by rw [hw4, hb7]; exact Blk.new _ _ _)
 have HN4 : Hid (New w3 w4) := Lib.hid (by rw [hw4]; exact New.al (New.refl _) _)
 have HB64 : Hid (Blk w4 b6 175 (secA (List.replicate 16 0))) := Lib.hid (HN4.out.blk HB6w.out)
 rw [← hw4, ← hb7]
 clear hw4 hb7 HB6w HB6
 have HTA : Hid (secA TL = secA (HS.take 16)) := Lib.hid (by rw [HTL.out])
 have HL16 : Hid ((u8s (HS.take 16)).length = 16) := Lib.hid (by rw [u8s_len, List.length_take, HS32.out]; rfl)
 refine wp_region_list ?_
 refine wpList_step fun K hK => ?_
 go_simp
 refine hK _ _ ?_
 clear hK K
 refine wpList_arr rfl _ rfl rfl Tryz.underlying175 (Nat.le_refl _) ?_
 refine wpList_load_range rfl _ rfl rfl (secA_take HS (n := 16) (by rw [HS32.out]; decide) HB7.out) Tryz.underlying175 rfl (by rw [HL16.out]; rfl) ?_
 refine wpList_store_any rfl (.tmp 6) (.tmp 26) rfl (cs := secA TL) (by rw [HSZ.out]; rfl) rfl (by rw [HTA.out]; rfl) HB64.out (by rw [HSZ.out, secA_size, List.length_replicate]) (secA_one _) ?_
 intro w8 hb8 hf8; have HB8 := Lib.hid hb8; have HF8 := Lib.hid hf8; clear hb8 hf8
 simp only [Act.put, List.setIfInBounds_toArray, List.set_cons_zero, List.set_cons_succ]
 go_wp2_with fail
 exact bodyPost_ret (v := .agg (secA TL)) (results_rowA rfl _ _ b6 _ _ rfl HB8.out Tryz.underlying175 rfl (by rw [HSZ.out]; rfl)) rfl ⟨rfl, ((((HN1.out.tr HN2.out).tr HN3.out).tr HN4.out)).fr HF8.out (fun k hk => by have := HZ.out; omega)⟩
end Go.Proofs.YtfchcdbfalgdlaaGreatDoor
