/- Texts of one proof, one behind the other: LgP, LgT, OcR, OcS. No condition but each one's own. -/
import Derived.Test.YteeclfejgpgooaaDoorLogPlaysM8
import Derived.Test.YteeclfejgpgooaaDoorLogPlaysM11
import Derived.Test.YteeclfejgpgooaaDoorLogPlaysM6
import Derived.Laws.BitsAllLaws
/- A log in plain words, and in memory; how records are read, wiped, written. No condition. -/
namespace Go.Proofs.YteeclfejgpgooaaDoor
set_option linter.unusedVariables false
set_option linter.unusedSimpArgs false
set_option linter.constructorNameAsVariable false
open Go.RowKit Go.Sort

/-- A log in plain words. -/
structure LG where
  first : Nat
  size : Nat
  gen : Nat
  used : Nat
  tag : List Int
  broken : Bool
structure LG.Ok (l : LG) (n : Nat) : Prop where
  fit : l.first + l.size ≤ n
  gen : l.gen < 4294967296
  used : l.used ≤ l.size
  len : l.tag.length = 16
  byt : Byt l.tag
def secN (n : Nat) : Nat := (secs n).toNat
theorem secN_le (n : Nat) : secN n ≤ 1193 := by have := secs_le n; unfold secN; omega
theorem secs_N (n : Nat) : secs (n : Int) = (secN n : Int) := by have := secs_le n; unfold secN; omega
theorem secN_in {n : Nat} (h1 : 1 ≤ n) (h2 : n ≤ 65536) : secN n = (n + 74) / 55 := by unfold secN; rw [secs_in (by omega) (by omega)]; omega
theorem secN_pos {n : Nat} (h : secN n ≠ 0) : 1 ≤ n ∧ n ≤ 65536 ∧ secN n = (n + 74) / 55 := by
  by_cases h1 : 1 ≤ n ∧ n ≤ 65536
  · exact ⟨h1.1, h1.2, secN_in h1.1 h1.2⟩
  · exact absurd (by unfold secN; rw [secs_0 (by omega)]; rfl) h
def tagL (tag : List Int) (gen : Nat) (b : List Int) : List Int := (hsh (tag ++ beL 4 gen ++ b)).take 16
theorem tagL_len (t : List Int) (g : Nat) (b : List Int) : (tagL t g b).length = 16 := by simp [tagL, hsh_len]
theorem tagL_byt (t : List Int) (g : Nat) (b : List Int) : Byt (tagL t g b) := fun x hx => hsh_byt _ x (List.mem_of_mem_take hx)
/-- What stands ahead in the i-th sector of a record; the i-th sector behind the records; a record's parts. -/
def LG.hdr (l : LG) (i : Nat) : List Int := beL 4 l.gen ++ beL 4 (l.used + i) ++ [if i = 0 then 1 else 2]
theorem LG.hdr_len (l : LG) (i : Nat) : (l.hdr i).length = 9 := by simp [LG.hdr, beL_len]
theorem LG.hdr_byt (l : LG) (i : Nat) : Byt (l.hdr i) := by
  intro x hx
  unfold LG.hdr at hx
  simp only [List.mem_append, List.mem_singleton] at hx
  rcases hx with (hx | hx) | hx
  · exact beL_byt _ _ x hx
  · exact beL_byt _ _ x hx
  · rw [hx]; split <;> omega
def sct (p : DP) (l : LG) (i : Nat) : List Int := p.rget ((l.first + l.used + i : Nat) : Int)
theorem sct_ok {p : DP} (h : p.Ok) (l : LG) (i : Nat) : SecOk (sct p l i) := h.rget _
def frameL (p : DP) (l : LG) (k : Nat) : List Int := (List.range k).flatMap fun i => (sct p l i).drop 9
theorem frameL_succ (p : DP) (l : LG) (k : Nat) : frameL p l (k + 1) = frameL p l k ++ (sct p l k).drop 9 := by simp [frameL, List.range_succ]
theorem frameL_len {p : DP} (h : p.Ok) (l : LG) : ∀ k, (frameL p l k).length = 55 * k
  | 0 => rfl
  | k + 1 => by
    have := (sct_ok h l k).1
    rw [frameL_succ, List.length_append, List.length_drop, frameL_len h l k, this]
    omega
theorem frameL_byt {p : DP} (h : p.Ok) (l : LG) (k : Nat) : Byt (frameL p l k) := by
  intro x hx
  obtain ⟨i, -, hi⟩ := List.mem_flatMap.1 hx
  exact (sct_ok h l i).2 x (List.mem_of_mem_drop hi)
/-- How many bytes the next record says that it has. -/
def LG.many (l : LG) (p : DP) : Nat := valL (((sct p l 0).drop 9).take 4)
def LG.body (l : LG) (p : DP) : List Int := ((frameL p l (secN (l.many p))).drop 20).take (l.many p)
/-- Is there a whole record behind those that are known? -/
structure LG.Next (l : LG) (p : DP) : Prop where
  room : l.used < l.size
  pos : secN (l.many p) ≠ 0
  fit : l.used + secN (l.many p) ≤ l.size
  hdr : ∀ i, i < secN (l.many p) → (sct p l i).take 9 = l.hdr i
  tag : ((frameL p l (secN (l.many p))).drop 4).take 16 = tagL l.tag l.gen (l.body p)
open Classical in
noncomputable def nextL (p : DP) (l : LG) : Option (List Int) := if l.Next p then some (l.body p) else none
theorem nextL_some {p : DP} {l : LG} (h : l.Next p) : nextL p l = some (l.body p) := by unfold nextL; exact if_pos h
theorem nextL_none {p : DP} {l : LG} (h : ¬ l.Next p) : nextL p l = none := by unfold nextL; exact if_neg h
def LG.step (l : LG) (b : List Int) : LG := { l with used := l.used + secN b.length, tag := tagL l.tag l.gen b }
theorem LG.body_len {p : DP} (h : p.Ok) {l : LG} (hp : secN (l.many p) ≠ 0) : (l.body p).length = l.many p := by
  have h1 := secN_pos hp
  unfold LG.body
  rw [List.length_take, List.length_drop, frameL_len h]
  omega
theorem LG.body_byt {p : DP} (h : p.Ok) (l : LG) : Byt (l.body p) := fun x hx => frameL_byt h l _ x (List.mem_of_mem_drop (List.mem_of_mem_take hx))
theorem LG.Next.ok {p : DP} {l : LG} {n : Nat} (h : l.Next p) (hp : p.Ok) (hl : l.Ok n) : (l.step (l.body p)).Ok n :=
  ⟨hl.fit, hl.gen, by have := h.fit; show l.used + secN (l.body p).length ≤ l.size; rw [LG.body_len hp h.pos]; exact this, tagL_len _ _ _, tagL_byt _ _ _⟩
/-- The log and its records, behind so many tries to read another one. -/
noncomputable def runs (p : DP) (l : LG) : Nat → LG × List (List Int)
  | 0 => (l, [])
  | k + 1 => match nextL p (runs p l k).1 with | some b => ((runs p l k).1.step b, (runs p l k).2 ++ [b]) | none => runs p l k
theorem runs_some {p : DP} {l : LG} {k : Nat} {b : List Int} (h : nextL p (runs p l k).1 = some b) : runs p l (k + 1) = ((runs p l k).1.step b, (runs p l k).2 ++ [b]) := by
  simp only [runs, h]
theorem runs_none {p : DP} {l : LG} {k : Nat} (h : nextL p (runs p l k).1 = none) : ∀ j, runs p l (k + j) = runs p l k
  | 0 => rfl
  | j + 1 => by
    have ih := runs_none h j
    rw [← Nat.add_assoc]
    show (match nextL p (runs p l (k + j)).1 with | some b => ((runs p l (k + j)).1.step b, (runs p l (k + j)).2 ++ [b]) | none => runs p l (k + j)) = _
    rw [ih, h]
theorem runs_ok {p : DP} {l : LG} {n : Nat} (hp : p.Ok) (h : l.Ok n) : ∀ k, (runs p l k).1.Ok n ∧ (runs p l k).1.size = l.size ∧ (runs p l k).1.first = l.first ∧ (runs p l k).1.gen = l.gen ∧ (runs p l k).1.broken = l.broken
  | 0 => ⟨h, rfl, rfl, rfl, rfl⟩
  | k + 1 => by
    obtain ⟨h1, h2, h3, h4, h5⟩ := runs_ok hp h k
    by_cases hx : (runs p l k).1.Next p
    · rw [runs_some (nextL_some hx)]
      exact ⟨hx.ok hp h1, h2, h3, h4, h5⟩
    · have := runs_none (nextL_none hx) 1
      rw [this]
      exact ⟨h1, h2, h3, h4, h5⟩
/-- All its records. -/
noncomputable def runL (p : DP) (l : LG) : LG × List (List Int) := runs p l (l.size + 1)
/-- Overwritten, sector by sector, what is behind the records: the disk, whether there was any, the error. -/
def wipeN (p : DP) (l : LG) : Nat → DP × Bool × Int
  | 0 => (p, false, 0)
  | k + 1 => let r := wipeN p l k
    if r.2.2 ≠ 0 then r else
    if valL ((sct r.1 l k).take 4) = l.gen then (r.1.doWrite ((l.first + l.used + k : Nat) : Int) sec0, (if r.1.wcode ((l.first + l.used + k : Nat) : Int) = 0 then true else r.2.1), r.1.wcode ((l.first + l.used + k : Nat) : Int))
    else r
def wipeL (p : DP) (l : LG) : DP × Int :=
  let r := wipeN p l (l.size - l.used)
  if r.2.2 ≠ 0 then (r.1, r.2.2) else if r.2.1 = true then (r.1.doSync, r.1.scode) else (r.1, 0)
/-- A record's frame, its sectors. -/
def LG.frame (l : LG) (b : List Int) : List Int := beL 4 b.length ++ tagL l.tag l.gen b ++ b
theorem LG.frame_len (l : LG) (b : List Int) : (l.frame b).length = b.length + 20 := by simp [LG.frame, beL_len, tagL_len]; omega
theorem LG.frame_byt (l : LG) {b : List Int} (hb : Byt b) : Byt (l.frame b) := by
  intro x hx
  unfold LG.frame at hx
  simp only [List.mem_append] at hx
  rcases hx with (hx | hx) | hx
  · exact beL_byt _ _ x hx
  · exact tagL_byt _ _ _ x hx
  · exact hb x hx
def LG.raw (l : LG) (b : List Int) (i : Nat) : List Int := l.hdr i ++ ((l.frame b).drop (55 * i)).take 55
def pad64 (x : List Int) : List Int := x ++ List.replicate (64 - x.length) 0
def LG.sec (l : LG) (b : List Int) (i : Nat) : List Int := pad64 (l.raw b i)
theorem LG.raw_len (l : LG) (b : List Int) (i : Nat) : (l.raw b i).length ≤ 64 := by
  unfold LG.raw
  rw [List.length_append, LG.hdr_len, List.length_take]
  omega
theorem pad64_len {x : List Int} (h : x.length ≤ 64) : (pad64 x).length = 64 := by simp [pad64]; omega
theorem pad64_byt {x : List Int} (h : Byt x) : Byt (pad64 x) := by
  intro y hy
  unfold pad64 at hy
  rcases List.mem_append.1 hy with hy | hy
  · exact h y hy
  · have := List.eq_of_mem_replicate hy
    omega
theorem LG.raw_byt (l : LG) {b : List Int} (hb : Byt b) (i : Nat) : Byt (l.raw b i) := by
  intro x hx
  rcases List.mem_append.1 hx with hx | hx
  · exact l.hdr_byt i x hx
  · exact l.frame_byt hb x (List.mem_of_mem_drop (List.mem_of_mem_take hx))
theorem LG.sec_ok (l : LG) {b : List Int} (hb : Byt b) (i : Nat) : SecOk (l.sec b i) := ⟨pad64_len (l.raw_len b i), pad64_byt (l.raw_byt hb i)⟩
/-- A record written, sector by sector: the disk, the error. -/
def writeN (p : DP) (l : LG) (b : List Int) : Nat → DP × Int
  | 0 => (p, 0)
  | k + 1 => let r := writeN p l b k
    if r.2 ≠ 0 then r else (r.1.doWrite ((l.first + l.used + k : Nat) : Int) (l.sec b k), r.1.wcode ((l.first + l.used + k : Nat) : Int))
def appL (p : DP) (l : LG) (b : List Int) : DP × LG × Int :=
  if secN b.length = 0 then (p, l, 2) else if l.broken = true then (p, l, 10) else if l.size - l.used < secN b.length then (p, l, 8) else
  let r := writeN p l b (secN b.length)
  if r.2 ≠ 0 then (r.1, { l with broken := true }, r.2) else (r.1, l.step b, 0)

/-- A log in memory. -/
def lgA (l : LG) (gd : Nat) : List Value := [.pointer (some ⟨gd, 0, none⟩), .int .i64 l.first, .int .i64 l.size, .int .u32 l.gen, .int .i64 l.used] ++ u8s l.tag ++ [.bool l.broken]
structure Lg (w : World) (gl gd : Nat) (l : LG) (n : Nat) : Prop where
  blk : Blk w gl 100 (lgA l gd).toArray
  ok : l.Ok n
theorem Lg.fr {S : Nat → Prop} {w w' : World} {gl gd n : Nat} {l : LG} (h : Lg w gl gd l n) (hF : Fr S w w') (hs : ¬ S gl) : Lg w' gl gd l n := ⟨h.blk.fr hF hs, h.ok⟩
theorem Lg.new {w w' : World} {gl gd n : Nat} {l : LG} (h : Lg w gl gd l n) (hN : New w w') : Lg w' gl gd l n := ⟨hN.blk h.blk, h.ok⟩
theorem Lg.c0 {w : World} {gl gd n : Nat} {l : LG} (h : Lg w gl gd l n) : w.cell? ⟨gl, 0, none⟩ = some (.pointer (some ⟨gd, 0, none⟩)) := h.blk.cell 0
theorem Lg.c1 {w : World} {gl gd n : Nat} {l : LG} (h : Lg w gl gd l n) : w.cell? ⟨gl, 1, none⟩ = some (.int .i64 l.first) := h.blk.cell 1
theorem Lg.c2 {w : World} {gl gd n : Nat} {l : LG} (h : Lg w gl gd l n) : w.cell? ⟨gl, 2, none⟩ = some (.int .i64 l.size) := h.blk.cell 2
theorem Lg.c3 {w : World} {gl gd n : Nat} {l : LG} (h : Lg w gl gd l n) : w.cell? ⟨gl, 3, none⟩ = some (.int .u32 l.gen) := h.blk.cell 3
theorem Lg.c4 {w : World} {gl gd n : Nat} {l : LG} (h : Lg w gl gd l n) : w.cell? ⟨gl, 4, none⟩ = some (.int .i64 l.used) := h.blk.cell 4
theorem Lg.cb {w : World} {gl gd n : Nat} {l : LG} (h : Lg w gl gd l n) : w.cell? ⟨gl, 21, none⟩ = some (.bool l.broken) := by
  rw [h.blk.cell 21, List.getElem?_toArray]
  unfold lgA
  rw [List.getElem?_append_right (by simp [u8s_len, h.ok.len])]
  simp [u8s_len, h.ok.len]
theorem lgA_len {l : LG} (h : l.tag.length = 16) (gd : Nat) : (lgA l gd).length = 22 := by simp [lgA, u8s_len, h]
theorem Lg.tagAt {w : World} {gl gd n : Nat} {l : LG} (h : Lg w gl gd l n) : w.rangeAt gl 5 (u8s l.tag) := fun j v hv => by
  rw [h.blk.cell, List.getElem?_toArray]
  have hj := (List.getElem?_eq_some_iff.1 hv).1
  unfold lgA
  rw [List.append_assoc, List.getElem?_append_right (by simp), List.getElem?_append_left (by simpa using hj)]
  simpa using hv
theorem Lg.setUsed {w : World} {gl gd n : Nat} {l : LG} (h : Lg w gl gd l n) (u : Nat) (hu : u ≤ l.size) : Lg (w.setCell ⟨gl, 4, none⟩ (.int .i64 u)) gl gd { l with used := u } n :=
  ⟨by
    have := h.blk.set 4 (.int .i64 u)
    rw [List.setIfInBounds_toArray] at this
    exact this, ⟨h.ok.fit, h.ok.gen, hu, h.ok.len, h.ok.byt⟩⟩
theorem Lg.setBroken {w : World} {gl gd n : Nat} {l : LG} (h : Lg w gl gd l n) (b : Bool) : Lg (w.setCell ⟨gl, 21, none⟩ (.bool b)) gl gd { l with broken := b } n :=
  ⟨by
    have := h.blk.set 21 (.bool b)
    rw [List.setIfInBounds_toArray] at this
    have e : (lgA l gd).set 21 (.bool b) = lgA { l with broken := b } gd := by
      unfold lgA
      rw [List.set_append_right _ _ (by simp [u8s_len, h.ok.len])]
      simp [u8s_len, h.ok.len]
    rw [e] at this
    exact this, ⟨h.ok.fit, h.ok.gen, h.ok.used, h.ok.len, h.ok.byt⟩⟩
theorem lgA_tag {l : LG} (h : l.tag.length = 16) (gd : Nat) (t : List Int) (ht : t.length = 16) : splice (lgA l gd) 5 (u8s t) = lgA { l with tag := t } gd := by
  unfold splice lgA
  rw [u8s_len, ht]
  have h5 : ([Value.pointer (some ⟨gd, 0, none⟩), .int .i64 l.first, .int .i64 l.size, .int .u32 l.gen, .int .i64 l.used] ++ u8s l.tag ++ [Value.bool l.broken]).drop (5 + 16) = [Value.bool l.broken] := by
    rw [List.drop_append_of_le_length (by simp [u8s_len, h]), List.drop_of_length_le (by simp [u8s_len, h])]
    rfl
  rw [h5]
  simp
/-- A row stored into the middle of a block that is known whole. -/
theorem run_store_part {P : Program} {w : World} {g o : Nat} {T ty : TypeId} {cur cells : List Value} (hg : Blk w g T cur.toArray) (ho : o + cells.length ≤ cur.length) (hi : (P.info? ty).map (·.size) = some cells.length) (h1 : ∀ v ∈ cells, v.oneCell' = true) :
    ∃ w', (Instr.storeAt ty (.pointer (some ⟨g, o, none⟩)) (.agg cells.toArray)).run P w = .ok () w' ∧ Blk w' g T (splice cur o cells).toArray ∧ Fr (fun k => k = g) w w' := by
  have hs := run_storeCells_at (P := P) g o T cells 0 cur.toArray w hg (by simpa using ho) h1
  obtain ⟨r1, r2⟩ := setRow_blk (cs' := (cur.take o ++ (cells ++ cur.drop (o + cells.length))).toArray) hg
  refine ⟨_, ?_, r1, r2⟩
  cases hq : P.info? ty with
  | none => simp [hq] at hi
  | some i =>
    have hz : cells.length = i.size := by simp [hq] at hi; omega
    simp only [Nat.add_zero, List.append_assoc] at hs
    simp [Instr.storeAt, Instr.sureAddr, storeVar, sizeOf, typeInfo, hq, Value.cells, hz, hs, go_sem]
theorem wpList_store_part {P : Program} {w : World} {ops : Array Oper} {rest : List Oper} {o : Oper} {a : Act} {Q : Exit → Act → World → Prop} {g off : Nat} {T ty : TypeId} {cur cells : List Value} (hw : Region.wanted o (yielded ops a.tmps) = true) (x y : Operand) (ho : o.op = .store ty x y) (hx : a.eval x = .pointer (some ⟨g, off, none⟩)) (hy : a.eval y = .agg cells.toArray)
    (hg : Blk w g T cur.toArray) (hl : off + cells.length ≤ cur.length) (hi : (P.info? ty).map (·.size) = some cells.length) (h1 : ∀ v ∈ cells, v.oneCell' = true)
    (h : ∀ w', Blk w' g T (splice cur off cells).toArray → Fr (fun k => k = g) w w' → wpList P ops Q rest (a.put o.dst undef) w') : wpList P ops Q (o :: rest) a w :=
  wpList_want hw fun K hK => by
    obtain ⟨w', hrun, r1, r2⟩ := run_store_part (P := P) hg hl hi h1
    unfold Oper.wp execOp
    simp only [ho, hx, hy, Sem.run_bind, hrun, Result.andThen_ok, Sem.run_pure]
    exact hK _ _ (h w' r1 r2)
end Go.Proofs.YteeclfejgpgooaaDoor
/- A record's tag. sha's tables are as they were laid. No condition else but the record's length. -/
namespace Go.Proofs.YteeclfejgpgooaaDoor
set_option linter.unusedVariables false
set_option linter.unusedSimpArgs false
set_option linter.constructorNameAsVariable false
open Go.RowKit Go.Sort

theorem hashInfo : (Tryd.prog.info? 122).map (fun i => (i.zero, i.size)) = some (some (.agg (secA (List.replicate 32 0))), 32) := by kernel_rfl
theorem wpList_arr {P : Program} {ops : Array Oper} {rest : List Oper} {o : Oper} {a : Act} {w : World} {Q : Exit → Act → World → Prop} {T e : TypeId} {n len cap : Nat} {A : Option Addr} (hw : Region.wanted o (yielded ops a.tmps) = true) (x : Operand) (hop : o.op = .sliceToArrayPointer T x) (hx : a.eval x = .slice A len cap)
    (hu : P.underlying T = some (.array n e)) (hn : n ≤ len) (h : wpList P ops Q rest (a.put o.dst (.pointer A)) w) : wpList P ops Q (o :: rest) a w :=
  wpList_want hw fun K hK => by
    unfold Oper.wp execOp
    simp only [hop, hx, Sem.run_bind, run_arrayAt (P := P) (w := w) T e n A len cap hu hn, Result.andThen_ok, Sem.run_pure]
    exact hK _ _ h
/-- The four bytes of a number of 32 bits, as the code makes them. -/
theorem u8_3 (n : Nat) : IntKind.u8.wrap ((n : Int) / 16777216) = ((byteAt n 3 : Nat) : Int) := by
  rw [show (n : Int) / 16777216 = ((n / 16777216 : Nat) : Int) from by simp, u8_wrap]
  rfl
theorem u8_2 (n : Nat) : IntKind.u8.wrap ((n : Int) / 65536) = ((byteAt n 2 : Nat) : Int) := by
  rw [show (n : Int) / 65536 = ((n / 65536 : Nat) : Int) from by simp, u8_wrap]
  rfl
theorem u8_1 (n : Nat) : IntKind.u8.wrap ((n : Int) / 256) = ((byteAt n 1 : Nat) : Int) := by
  rw [show (n : Int) / 256 = ((n / 256 : Nat) : Int) from by simp, u8_wrap]
  rfl
theorem u8_0 (n : Nat) : IntKind.u8.wrap (n : Int) = ((byteAt n 0 : Nat) : Int) := by
  rw [u8_wrap]
  unfold byteAt
  rw [Nat.pow_zero, Nat.div_one]
theorem secA_take (s : List Int) {n : Nat} (h : n ≤ s.length) : ∀ {w : World} {g T : Nat}, Blk w g T (secA s) → w.rangeAt g 0 (u8s (s.take n)) := fun hb j v hv => by
  rw [hb.cell, Nat.zero_add]
  have hj := (List.getElem?_eq_some_iff.1 hv).1
  rw [u8s_len, List.length_take] at hj
  unfold secA
  rw [List.getElem?_toArray, ← hv]
  unfold u8s
  rw [List.getElem?_map, List.getElem?_map, List.getElem?_take_of_lt (by omega)]
set_option maxHeartbeats 2000000 in
set_option maxRecDepth 100000 in
theorem tagged_any {q : Nat → Prop} (tag : List Int) (gen : Nat) (A : Option Addr) (n c : Nat) (b : List Int) (w : World) (hL : ShaIn 3 2 w) (hR : Rd q w 1 A n (u8s b)) (hb : Byt b) (ht : tag.length = 16) (htb : Byt tag) (hg : gen < 4294967296) (hn : n ≤ 400000000) :
    Calls Tryd.prog 46 #[.agg (secA tag), .int .u32 gen, .slice A n c] w fun e w' => e = .returned (.agg (secA (tagL tag gen b))) ∧ New w w' := by
  have HL := Lib.hid hL
  have HR := Lib.hid hR
  have HB := Lib.hid hb
  have HT := Lib.hid (And.intro ht htb)
  have HX : Hid (b.length = n) := Lib.hid (by have := hR.1; rw [u8s_len] at this; omega)
  have hsz : (secA (tagL tag gen b)).size = 16 := by rw [secA_size, tagL_len]
  have HSZ := Lib.hid hsz
  have HTL : Hid (tagL tag gen b = (hsh ([tag, beL 4 gen, b].flatten)).take 16) := Lib.hid (by simp [tagL])
  obtain ⟨TL, hTL⟩ : ∃ TL, TL = tagL tag gen b := ⟨_, rfl⟩
  rw [← hTL] at HSZ HTL ⊢
  obtain ⟨TA, hTA⟩ : ∃ TA, TA = secA tag := ⟨_, rfl⟩
  have HTA := Lib.hid hTA
  rw [← hTA]
  have v3 := u8_3 gen
  have v2 := u8_2 gen
  have v1 := u8_1 gen
  have v0 := u8_0 gen
  have hg' : (gen : Int) < 4294967296 := by omega
  clear hL hR hb ht htb hsz hTL hTA
  go_enter Tryd.func46, Tryd.ntmps46
  go_upto_region 1 with fail
  obtain ⟨w1, hw1⟩ : ∃ w1 : World, w1 = (w.alloc (.cells TA 65)).alloc (.cells #[.int .u8 0, .int .u8 0, .int .u8 0, .int .u8 0, .int .u8 0, .int .u8 0, .int .u8 0, .int .u8 0, .int .u8 0, .int .u8 0, .int .u8 0, .int .u8 0, .int .u8 0, .int .u8 0, .int .u8 0, .int .u8 0] 65) := ⟨_, rfl⟩
  obtain ⟨b3, hb3⟩ : ∃ b3, b3 = w.heap.size := ⟨_, rfl⟩
  obtain ⟨b6, hb6⟩ : ∃ b6, b6 = w.heap.size + 1 := ⟨_, rfl⟩
  have hz : (#[.int .u8 0, .int .u8 0, .int .u8 0, .int .u8 0, .int .u8 0, .int .u8 0, .int .u8 0, .int .u8 0, .int .u8 0, .int .u8 0, .int .u8 0, .int .u8 0, .int .u8 0, .int .u8 0, .int .u8 0, .int .u8 0] : Array Value) = secA (List.replicate 16 0) := by rfl
  have HN1 : Hid (New w w1) := Lib.hid (by rw [hw1]; exact New.al (New.al (New.refl _) _) _)
  have HB3 : Hid (Blk w1 b3 65 (secA tag)) := Lib.hid (by rw [hw1, hb3, HTA.out]; exact (Blk.new _ _ _).alloc _)
  have HB6 : Hid (Blk w1 b6 65 (secA (List.replicate 16 0))) := Lib.hid (by rw [hw1, hb6, ← hz]; exact Blk.new' _ _ _ (by simp))
  have HZ : Hid (b3 = w.heap.size ∧ b6 = w.heap.size + 1) := Lib.hid ⟨hb3, hb6⟩
  rw [← hw1, ← hb6, ← hb3]
  clear hw1 hb3 hb6 hz
  go_wp2_with fail
  obtain ⟨w2, hw2⟩ : ∃ w2 : World, w2 = (w1.alloc (.cells #[.int .u8 (byteAt gen 3 : Nat), .int .u8 (byteAt gen 2 : Nat), .int .u8 (byteAt gen 1 : Nat), .int .u8 (byteAt gen 0 : Nat)] 5)).alloc (.cells #[.slice (some ⟨b3, 0, none⟩) 16 16, .slice (some ⟨w1.heap.size, 0, none⟩) 4 4, .slice A n c] 43) := ⟨_, rfl⟩
  obtain ⟨bp, hbp⟩ : ∃ bp, bp = w1.heap.size + 1 := ⟨_, rfl⟩
  have HN2 : Hid (New w1 w2) := Lib.hid (by rw [hw2]; exact New.al (New.al (New.refl _) _) _)
  have HP : Hid (Parts w2 bp 0 [tag, beL 4 gen, b]) := Lib.hid ⟨fun i l hl => by
    have hB : Blk w2 bp 43 #[.slice (some ⟨b3, 0, none⟩) 16 16, .slice (some ⟨w1.heap.size, 0, none⟩) 4 4, .slice A n c] := by rw [hw2, hbp]; exact Blk.new' _ _ _ (by simp)
    have hG : Blk w2 w1.heap.size 5 #[.int .u8 (byteAt gen 3 : Nat), .int .u8 (byteAt gen 2 : Nat), .int .u8 (byteAt gen 1 : Nat), .int .u8 (byteAt gen 0 : Nat)] := by rw [hw2]; exact (Blk.new _ _ _).alloc _
    match i, hl with
    | 0, hl =>
      obtain rfl : tag = l := by simpa using hl
      refine ⟨HT.out.2, some ⟨b3, 0, none⟩, 16, ?_, ?_⟩
      · rw [HT.out.1]; exact hB.cell 0
      · have h := Rd.ofBlk (p := fun _ => True) (HN2.out.blk HB3.out) 1 tag.length (by rw [secA_size]; omega) trivial
        rw [secA_list] at h
        exact h
    | 1, hl =>
      obtain rfl : beL 4 gen = l := by simpa using hl
      refine ⟨beL_byt _ _, some ⟨w1.heap.size, 0, none⟩, 4, hB.cell 1, ?_⟩
      exact Rd.ofBlk (p := fun _ => True) hG 1 4 rfl trivial
    | 2, hl =>
      obtain rfl : b = l := by simpa using hl
      refine ⟨HB.out, A, c, ?_, ?_⟩
      · rw [HX.out]; exact hB.cell 2
      · rw [HX.out]; exact (HN2.out.rd (HN1.out.rd HR.out)).imp (fun _ _ => trivial)
    | (i + 3), hl => simp at hl⟩
  rw [← hw2, ← hbp]
  clear hw2 hbp v3 v2 v1 v0
  have hfl : ([tag, beL 4 gen, b].flatten).length = n + 20 := by
    have := HX.out
    have := HT.out.1
    simp [beL_len]
    omega
  refine (of_any bp 0 3 [tag, beL 4 gen, b] 3 rfl w2 ((HL.out.new HN1.out).new HN2.out) (by simp) HP.out (by simp) (by omega) (by simp)).mono ?_
  rintro e w3 ⟨rfl, hN3⟩
  obtain ⟨HS, hHS⟩ : ∃ HS, HS = hsh [tag, beL 4 gen, b].flatten := ⟨_, rfl⟩
  rw [← hHS] at HTL ⊢
  have hl32 : HS.length = 32 := by rw [hHS]; exact hsh_len _
  have HS32 := Lib.hid hl32
  have HN3 := Lib.hid hN3
  have hsz3 : (secA HS).size = 32 := by rw [secA_size, hl32]
  have HZ3 := Lib.hid hsz3
  clear hN3 hHS hfl hl32 hsz3
  have HB6w : Hid (Blk w3 b6 65 (secA (List.replicate 16 0))) := Lib.hid (HN3.out.blk (HN2.out.blk HB6.out))
  go_upto_region 2 with ((with_reducible refine atOp ⟨some 7, .alloc _, _, _, _, _⟩ ?_); refine wpList_newvar (s := HS) rfl rfl rfl _ _ rfl hashInfo rfl rfl rfl HS32.out ?_)
  obtain ⟨w4, hw4⟩ : ∃ w4 : World, w4 = w3.alloc (.cells (secA HS) 122) := ⟨_, rfl⟩
  obtain ⟨b7, hb7⟩ : ∃ b7, b7 = w3.heap.size := ⟨_, rfl⟩
  have HB7 : Hid (Blk w4 b7 122 (secA HS)) := Lib.hid (by rw [hw4, hb7]; exact Blk.new _ _ _)
  have HN4 : Hid (New w3 w4) := Lib.hid (by rw [hw4]; exact New.al (New.refl _) _)
  have HB64 : Hid (Blk w4 b6 65 (secA (List.replicate 16 0))) := Lib.hid (HN4.out.blk HB6w.out)
  rw [← hw4, ← hb7]
  clear hw4 hb7 HB6w HB6
  have HTA : Hid (secA TL = secA (HS.take 16)) := Lib.hid (by rw [HTL.out])
  have HL16 : Hid ((u8s (HS.take 16)).length = 16) := Lib.hid (by rw [u8s_len, List.length_take, HS32.out]; rfl)
  refine wp_region_list ?_
  refine wpList_step fun K hK => ?_
  go_simp
  refine hK _ _ ?_
  clear hK K
  refine wpList_arr rfl _ rfl rfl Tryd.underlying65 (Nat.le_refl _) ?_
  refine wpList_load_range rfl _ rfl rfl (secA_take HS (n := 16) (by rw [HS32.out]; decide) HB7.out) Tryd.underlying65 rfl (by rw [HL16.out]; rfl) ?_
  refine wpList_store_any rfl (.tmp 6) (.tmp 26) rfl (cs := secA TL) (by rw [HSZ.out]; rfl) rfl (by rw [HTA.out]; rfl) HB64.out (by rw [HSZ.out, secA_size, List.length_replicate]) (secA_one _) ?_
  intro w8 hb8 hf8; have HB8 := Lib.hid hb8; have HF8 := Lib.hid hf8; clear hb8 hf8
  simp only [Act.put, List.setIfInBounds_toArray, List.set_cons_zero, List.set_cons_succ]
  go_wp2_with fail
  exact bodyPost_ret (v := .agg (secA TL)) (results_rowA rfl _ _ b6 _ _ rfl HB8.out Tryd.underlying65 rfl (by rw [HSZ.out]; rfl)) rfl ⟨rfl, ((((HN1.out.tr HN2.out).tr HN3.out).tr HN4.out)).fr HF8.out (fun k hk => by have := HZ.out; omega)⟩
end Go.Proofs.YteeclfejgpgooaaDoor
/- The program's reader of octets: what it hands out, and what is left, in plain words. No condition but that what is read can be read. -/
namespace Go.Proofs.YteeclfejgpgooaaDoor
set_option linter.unusedVariables false
set_option linter.unusedSimpArgs false
set_option linter.constructorNameAsVariable false
open Go.RowKit Go.Maps

def errV (e : Nat) : Value := if e = 0 then .nilIface else .iface 63 (.int .i64 e)
theorem errV_zero : errV 0 = .nilIface := rfl
theorem errV_pos {e : Nat} (h : e ≠ 0) : errV e = .iface 63 (.int .i64 e) := if_neg h
/-- A reader in memory. -/
structure RdIn (w : World) (g : Nat) (s : Rs) : Prop where
  st : ∃ A c, Blk w g 133 #[errV s.e, .slice A s.xs.length c] ∧ RdT 5 w 1 A s.xs.length (u8s s.xs) ∧ s.xs.length ≤ c
  byt : Byt s.xs
  len : s.xs.length ≤ 140737488355328
section
variable {g : Nat} {w w' : World} {s : Rs}
theorem RdIn.lt (h : RdIn w g s) : g < w.heap.size := by obtain ⟨A, c, hb, _⟩ := h.st; exact hb.lt
theorem RdIn.new (h : RdIn w g s) (hN : New w w') : RdIn w' g s := by
  obtain ⟨A, c, hb, hr, hc⟩ := h.st
  exact ⟨⟨A, c, hN.blk hb, hr.new hN, hc⟩, h.byt, h.len⟩
theorem RdIn.fr {S : Nat → Prop} (h : RdIn w g s) (hF : Fr S w w') (hg : ¬ S g) (hS : ∀ k, S k → ¬ IsT 5 w k) : RdIn w' g s := by
  obtain ⟨A, c, hb, hr, hc⟩ := h.st
  exact ⟨⟨A, c, hb.fr hF hg, hr.fr hF hS, hc⟩, h.byt, h.len⟩
end
theorem Rd.take {p : Nat → Prop} {w : World} {A : Option Addr} {n : Nat} {xs : List Int} (h : Rd p w 1 A n (u8s xs)) {k : Nat} (hk : k ≤ n) : Rd p w 1 A k (u8s (xs.take k)) := by
  have hl : xs.length = n := by have := h.1; rw [u8s_len] at this; omega
  refine ⟨by rw [u8s_len, List.length_take]; omega, fun hp => ?_⟩
  obtain ⟨ad, e, h1, h2, h3⟩ := h.2 (by omega)
  refine ⟨ad, e, h1, h2, fun j u hu => h3 j u ?_⟩
  have : u8s (xs.take k) = (u8s xs).take k := by simp [u8s]
  rw [this, List.getElem?_take] at hu
  split at hu
  · exact hu
  · cases hu
theorem from_any {p : Nat → Prop} (A : Option Addr) (n c : Nat) (xs : List Int) (w : World) (hO : Rd p w 1 A n (u8s xs)) (hb : Byt xs) (hn : n ≤ 140737488355328) :
    Calls Tryd.prog 56 #[.slice A n c] w fun e w' => ∃ g, e = .returned (.pointer (some ⟨g, 0, none⟩)) ∧ RdIn w' g ⟨xs, 0⟩ ∧ New w w' ∧ w.heap.size ≤ g := by
  have hx : xs.length = n := by have := hO.1; rw [u8s_len] at this; omega
  have HC := Lib.hid (sclone_any A n c xs w hO hn)
  have HB := Lib.hid hb
  have HX := Lib.hid hx
  clear hO hb hx
  go_enter Tryd.func56, Tryd.ntmps56
  go_wp2_with fail
  refine HC.out.mono ?_
  rintro e w1 ⟨⟨A1, d1, rfl, hO1⟩, hN1⟩
  have HO1 := Lib.hid hO1
  have HN1 := Lib.hid hN1
  clear hO1 hN1
  go_wp2_with fail
  go_ret
  have hN2 := New.al (New.refl w1) (.cells #[.nilIface, .slice A1 n d1] 133)
  refine ⟨w1.heap.size, rfl, ⟨⟨A1, d1, ?_, ?_, ?_⟩, HB.out, by rw [HX.out]; exact hn⟩, HN1.out.tr hN2, HN1.out.size⟩
  · rw [HX.out]
    exact Blk.new _ _ _
  · rw [HX.out]
    exact (RdT.own HO1.out rfl).new hN2
  · rw [HX.out]
    obtain ⟨A', c', h1, h2, -⟩ := own_shape HO1.out
    injection h1 with _ _ h3
    omega
theorem ffail_any (g T : Nat) (v : Value) (e c : Nat) (w : World) (hB : Blk w g T #[errV e, v]) (hc : 1 ≤ c) :
    Calls Tryd.prog 64 #[.pointer (some ⟨g, 0, none⟩), .iface 63 (.int .i64 c)] w fun x w' => x = .returned (.tuple #[]) ∧ Blk w' g T #[errV (if e = 0 then c else e), v] ∧ Fr (fun k => k = g) w w' := by
  have c0 : w.cell? ⟨g, 0, none⟩ = some (errV e) := hB.cell 0
  have f0 := hB.frozen 0
  have HB := Lib.hid hB
  clear hB
  by_cases h0 : e = 0
  · subst h0
    rw [errV_zero] at c0
    go_enter Tryd.func64, Tryd.ntmps64
    go_wp2_with fail
    go_end0
    refine ⟨rfl, ?_, (Fr.refl (fun k => k = g) w).setCell (p := ⟨g, 0, none⟩) (fun _ => rfl) _⟩
    have := HB.out.set 0 (.iface 63 (.int .i64 c))
    show Blk _ g T #[errV c, v]
    rw [errV_pos (e := c) (by omega)]
    simpa using this
  · rw [errV_pos h0] at c0
    rw [if_neg h0]
    clear h0
    go_enter Tryd.func64, Tryd.ntmps64
    go_wp2_with fail
    go_end0
    exact ⟨rfl, HB.out, Fr.refl _ _⟩
theorem rfail_any {g : Nat} {s : Rs} {w : World} (h : RdIn w g s) (c : Nat) (hc : 1 ≤ c) :
    Calls Tryd.prog 69 #[.pointer (some ⟨g, 0, none⟩), .iface 63 (.int .i64 c)] w fun x w' => x = .returned (.tuple #[]) ∧ RdIn w' g (s.bad c) ∧ Fr (fun k => k = g) w w' := by
  obtain ⟨A, d, hb, hr, hcc⟩ := h.st
  have HF := Lib.hid (ffail_any g 133 _ s.e c w hb hc)
  have H := Lib.hid h
  have HR := Lib.hid hr
  have HCC := Lib.hid hcc
  clear h hb hr hcc
  go_enter Tryd.func69, Tryd.ntmps69
  go_wp2_with fail
  refine HF.out.mono ?_
  rintro e w1 ⟨rfl, hB1, hF1⟩
  have HB1 := Lib.hid hB1
  have HF1 := Lib.hid hF1
  clear hB1 hF1
  go_wp2_with fail
  go_end0
  have hr1 : RdT 5 w1 1 A s.xs.length (u8s s.xs) := HR.out.fr HF1.out (fun k hk => by
    subst hk
    obtain ⟨A', d', hb', _⟩ := H.out.st
    exact IsT.not_blk hb' (by decide))
  refine ⟨rfl, ?_, HF1.out⟩
  have hB1 := HB1.out
  unfold Rs.bad
  by_cases h0 : s.e = 0
  · rw [if_pos h0] at hB1 ⊢
    exact ⟨⟨A, d, hB1, hr1, HCC.out⟩, H.out.byt, H.out.len⟩
  · rw [if_neg h0] at hB1 ⊢
    exact ⟨⟨A, d, hB1, hr1, HCC.out⟩, H.out.byt, H.out.len⟩
theorem rleft_any {g : Nat} {s : Rs} {w : World} (h : RdIn w g s) :
    Calls Tryd.prog 75 #[.pointer (some ⟨g, 0, none⟩)] w fun x w' => x = .returned (.int .i64 s.left) ∧ w = w' := by
  obtain ⟨A, d, hb, hr, hcc⟩ := h.st
  have c0 : w.cell? ⟨g, 0, none⟩ = some (errV s.e) := hb.cell 0
  have c1 : w.cell? ⟨g, 1, none⟩ = some (.slice A s.xs.length d) := hb.cell 1
  clear h hb hr hcc
  unfold Rs.left
  by_cases h0 : s.e = 0
  · rw [h0, errV_zero] at c0
    rw [if_pos h0]
    clear h0
    go_enter Tryd.func75, Tryd.ntmps75
    go_wp2_with fail
    go_ret
    exact ⟨rfl, rfl⟩
  · rw [errV_pos h0] at c0
    rw [if_neg h0]
    clear h0
    go_enter Tryd.func75, Tryd.ntmps75
    go_wp2_with fail
    go_ret
    exact ⟨rfl, rfl⟩
theorem left_le (s : Rs) : s.left ≤ s.xs.length := by
  unfold Rs.left
  split <;> omega
theorem left_zero {s : Rs} (h : 0 < s.left) : s.e = 0 ∧ s.left = s.xs.length := by
  unfold Rs.left at h ⊢
  split at h
  · next h0 => exact ⟨h0, by rw [if_pos h0]⟩
  · omega
set_option maxHeartbeats 2000000 in
theorem rraw_any {g : Nat} {s : Rs} {w : World} (h : RdIn w g s) (n : Nat) (hn : n ≤ 140737488355328) :
    Calls Tryd.prog 68 #[.pointer (some ⟨g, 0, none⟩), .int .i64 n] w fun x w' => (∃ A c, x = .returned (.slice A (s.raw n).1.length c) ∧ w'.ownsRow w.heap.size 5 1 (.slice A (s.raw n).1.length c) (s.raw n).1.length (u8s (s.raw n).1)) ∧ RdIn w' g (s.raw n).2 ∧ Fr (fun k => k = g) w w' := by
  have HL := Lib.hid (rleft_any h)
  have HFL := Lib.hid (rfail_any h 2 (by omega))
  have hll := left_le s
  have hlen := h.len
  by_cases hlt : s.left < n
  · have hx : s.raw n = ([], s.bad 2) := by unfold Rs.raw; rw [if_pos hlt]
    rw [hx]
    generalize s.left = l at *
    clear hx
    go_enter Tryd.func68, Tryd.ntmps68
    go_wp2_with fail
    refine HL.out.mono ?_
    rintro e w1 ⟨rfl, rfl⟩
    have hd : decide ((l : Int) < (n : Int)) = true := decide_eq_true (by omega)
    go_wp2_with fail
    refine HFL.out.mono ?_
    rintro e w2 ⟨rfl, hR2, hF2⟩
    have HR2 := Lib.hid hR2
    have HF2 := Lib.hid hF2
    clear hR2 hF2
    go_wp2_with fail
    go_ret
    exact ⟨⟨none, 0, rfl, World.ownsRow_nil _ _ _ _⟩, HR2.out, HF2.out⟩
  · have hx : s.raw n = (s.xs.take n, ⟨s.xs.drop n, s.e⟩) := by unfold Rs.raw; rw [if_neg hlt]
    rw [hx]
    dsimp only
    by_cases hn0 : n = 0
    · subst hn0
      rw [List.take_zero, List.drop_zero]
      have hd : decide ((s.left : Int) < 0) = false := decide_eq_false (by omega)
      have H := Lib.hid h
      generalize s.left = l at *
      clear hx h
      go_enter Tryd.func68, Tryd.ntmps68
      go_wp2_with fail
      refine HL.out.mono ?_
      rintro e w1 ⟨rfl, rfl⟩
      go_wp2_with fail
      go_ret
      exact ⟨⟨none, 0, rfl, World.ownsRow_nil _ _ _ _⟩, H.out, Fr.refl _ _⟩
    · obtain ⟨he, hle⟩ := left_zero (s := s) (by omega)
      have hnx : n ≤ s.xs.length := by omega
      obtain ⟨A, d, hb, hr, hcc⟩ := h.st
      obtain ⟨l, hl⟩ : ∃ l, l = s.xs.length := ⟨_, rfl⟩
      rw [← hl] at hb hr hcc hnx hlen
      have hd : decide ((l : Int) < (n : Int)) = false := decide_eq_false (by omega)
      rw [hle, ← hl] at HL
      rw [he, errV_zero] at hb
      have htk : (s.xs.take n).length = n := by rw [List.length_take]; omega
      rw [htk]
      have HB := Lib.hid hb
      have HR : Hid (RdT 5 w 1 A l (u8s s.xs)) := Lib.hid hr
      have HCC := Lib.hid hcc
      have HX := Lib.hid hl
      have HE := Lib.hid he
      have HBY := Lib.hid h.byt
      have HTK := Lib.hid htk
      have c1 : w.cell? ⟨g, 1, none⟩ = some (.slice A l d) := hb.cell 1
      have f1 := hb.frozen 1
      obtain ⟨gA, o, rfl, -⟩ : ∃ gA o, A = some ⟨gA, o, none⟩ ∧ True := by
        obtain ⟨gA, o, hA, _⟩ := hr.out (by omega) (by omega)
        exact ⟨gA, o, hA, trivial⟩
      clear hx h hb hr hcc hl he hle hll hlt htk
      go_enter Tryd.func68, Tryd.ntmps68
      go_wp2_with fail
      refine HL.out.mono ?_
      rintro e w1 ⟨rfl, rfl⟩
      have HNX := Lib.hid hnx
      by_cases hdn : d = n
      · subst hdn
        obtain rfl : l = d := by have := HCC.out; omega
        go_wp2_with fail
        refine (sclone_any (some ⟨gA, o, none⟩) l l (s.xs.take l) w (Rd.take HR.out HNX.out) (by omega)).mono ?_
        rintro e w2 ⟨⟨A2, d2, rfl, hO2⟩, hN2⟩
        have HO2 := Lib.hid hO2
        have HN2 := Lib.hid hN2
        have c1 : w2.cell? ⟨g, 1, none⟩ = some (.slice (some ⟨gA, o, none⟩) l l) := (hN2.blk HB.out).cell 1
        have f1 : w2.frozen? ⟨g, 1, none⟩ = false := (hN2.blk HB.out).frozen 1
        clear hO2 hN2
        go_wp2_with fail
        go_ret
        have hFs := fun v => (Fr.refl (fun k => k = g) w2).setCell (p := ⟨g, 1, none⟩) (fun _ => rfl) v
        have hng : ∀ k, k = g → ¬ IsT 5 w2 k := fun k hk => by subst hk; exact IsT.not_blk (HN2.out.blk HB.out) (by decide)
        have hnx : ∀ k, (Value.slice A2 l d2).ownBlock = some k → ¬ k = g := fun k hk e => hng k e (own_isT' HO2.out hk)
        have hd0 : s.xs.drop l = [] := List.drop_eq_nil_of_le (by rw [← HX.out]; exact Nat.le_refl _)
        rw [hd0]
        refine ⟨⟨A2, d2, rfl, own_fr HO2.out (hFs _) hnx⟩, ⟨⟨some ⟨gA, o, none⟩, 0, ?_, RdT.nil, Nat.le_refl _⟩, (fun x hx => nomatch hx), Nat.zero_le _⟩, (HN2.out.toFr _).trans (hFs _)⟩
        have hb := (HN2.out.blk HB.out).set 1 (.slice (some ⟨gA, o, none⟩) 0 0)
        dsimp only
        rw [HE.out, errV_zero]
        simpa using hb
      · have hlt2 : n < d := by have := HCC.out; omega
        go_wp2_with fail
        refine (sclone_any (some ⟨gA, o, none⟩) n d (s.xs.take n) w (Rd.take HR.out HNX.out) (by omega)).mono ?_
        rintro e w2 ⟨⟨A2, d2, rfl, hO2⟩, hN2⟩
        have HO2 := Lib.hid hO2
        have HN2 := Lib.hid hN2
        have c1 : w2.cell? ⟨g, 1, none⟩ = some (.slice (some ⟨gA, o, none⟩) l d) := (hN2.blk HB.out).cell 1
        have f1 : w2.frozen? ⟨g, 1, none⟩ = false := (hN2.blk HB.out).frozen 1
        clear hO2 hN2
        go_wp2_with fail
        go_ret
        have hFs := fun v => (Fr.refl (fun k => k = g) w2).setCell (p := ⟨g, 1, none⟩) (fun _ => rfl) v
        have hng : ∀ k, k = g → ¬ IsT 5 w2 k := fun k hk => by subst hk; exact IsT.not_blk (HN2.out.blk HB.out) (by decide)
        have hnx : ∀ k, (Value.slice A2 n d2).ownBlock = some k → ¬ k = g := fun k hk e => hng k e (own_isT' HO2.out hk)
        have hdl : (s.xs.drop n).length = l - n := by rw [List.length_drop, HX.out]
        have hrd : RdT 5 w2 1 (some ⟨gA, o + n, none⟩) (l - n) (u8s (s.xs.drop n)) := by
          have h1 := Rd.drop (cap := d) (HR.out.new HN2.out) HNX.out HCC.out
          rw [if_neg hdn, Option.map_some, Nat.mul_one] at h1
          have h2 : (⟨gA, o, none⟩ : Addr).add n = ⟨gA, o + n, none⟩ := by
            unfold Addr.add
            rw [if_neg hn0]
          rw [h2] at h1
          have h3 : (u8s s.xs).drop n = u8s (s.xs.drop n) := by simp [u8s]
          rw [h3] at h1
          exact h1
        refine ⟨⟨A2, d2, rfl, own_fr HO2.out (hFs _) hnx⟩, ⟨⟨some ⟨gA, o + n, none⟩, d - n, ?_, ?_, ?_⟩, ?_, ?_⟩, (HN2.out.toFr _).trans (hFs _)⟩
        · have hb := (HN2.out.blk HB.out).set 1 (.slice (some ⟨gA, o + n, none⟩) (l - n) (d - n))
          dsimp only
          rw [hdl, HE.out, errV_zero]
          simpa using hb
        · dsimp only
          rw [hdl]
          exact hrd.fr (hFs _) hng
        · dsimp only
          rw [hdl]
          have := HCC.out
          omega
        · exact fun x hx => HBY.out x (List.mem_of_mem_drop hx)
        · dsimp only
          rw [hdl]
          omega
end Go.Proofs.YteeclfejgpgooaaDoor
/- The program's reader of octets: numbers, bytes, flags, the end. No condition but that what is read can be read. -/
namespace Go.Proofs.YteeclfejgpgooaaDoor
set_option linter.unusedVariables false
set_option linter.unusedSimpArgs false
set_option linter.constructorNameAsVariable false
open Go.RowKit Go.Maps

theorem or_shl (v y : Nat) (hv : v < 256 ^ 7) (hy : y < 256) : bits .or .u64 ((v : Int) * 256) (y : Int) = ((v * 256 + y : Nat) : Int) := by
  rw [show (v : Int) * 256 = ((v * 256 : Nat) : Int) by simp, u64_or_nat _ _ (by omega) (by omega)]
  congr 1
  rw [show v * 256 = v <<< 8 by rw [Nat.shiftLeft_eq], Nat.shiftLeft_add_eq_or_of_lt (by omega)]
theorem raw_le (s : Rs) (n : Nat) : (s.raw n).1.length ≤ n := by
  unfold Rs.raw
  split
  · simp
  · simp; omega
theorem raw_byt {s : Rs} (h : Byt s.xs) (n : Nat) : Byt (s.raw n).1 := by
  unfold Rs.raw
  split
  · intro x hx; cases hx
  · exact fun x hx => h x (List.mem_of_mem_take hx)
set_option maxHeartbeats 2000000 in
theorem rnum_any {g : Nat} {s : Rs} {w : World} (h : RdIn w g s) (size : Nat) (hs : size = 1 ∨ size = 2 ∨ size = 4 ∨ size = 8) :
    Calls Tryd.prog 57 #[.pointer (some ⟨g, 0, none⟩), .int .i64 size] w fun x w' => x = .returned (.int .u64 (s.num size).1) ∧ RdIn w' g (s.num size).2 ∧ Fr (fun k => k = g) w w' := by
  have HS := Lib.hid (fun w => sized_yes size (by omega) w)
  have HW := Lib.hid (rraw_any h size (by omega))
  have hle := raw_le s size
  have hby := raw_byt h.byt size
  unfold Rs.num
  dsimp only
  obtain ⟨bs, hbs⟩ : ∃ bs, bs = (s.raw size).1 := ⟨_, rfl⟩
  rw [← hbs] at HW hle hby ⊢
  obtain ⟨m, hm⟩ : ∃ m, m = bs.length := ⟨_, rfl⟩
  rw [← hm] at HW hle
  have hm8 : m ≤ 8 := by omega
  have HM := Lib.hid hm
  have HBY := Lib.hid hby
  clear hbs hm hby h hs
  go_enter Tryd.func57, Tryd.ntmps57
  go_wp2_with fail
  refine (HS.out _).mono ?_
  rintro e w1 ⟨rfl, rfl⟩
  go_wp2_with fail
  refine HW.out.mono ?_
  rintro e w2 ⟨⟨A, c, rfl, hO⟩, hR, hF⟩
  have HO := Lib.hid hO
  have HR := Lib.hid hR
  have HF := Lib.hid hF
  clear hO hR hF HW HS
  go_wp2_with fail
  go_loop [5, 18] (fun n i => ∃ j : Nat, j ≤ m ∧ i = .int .i64 j ∧ n = .int .u64 (valL (bs.take j))) (fun n i => m - (intOf i).toNat)
  case atStart => exact ⟨0, Nat.zero_le _, rfl, rfl⟩
  case round =>
    obtain ⟨j, hj, rfl, rfl⟩ := hrel
    by_cases hlt : j < m
    · obtain ⟨gA, o, rfl, -, -, hq⟩ := (Rd.own HO.out rfl).out (by omega) (by omega)
      have hjl : j < bs.length := by rw [← HM.out]; exact hlt
      have hcell : w2.cell? ⟨gA, o + j, none⟩ = some (.int .u8 bs[j]) := hq j _ (by simp [u8s, hjl])
      have hst := valL_take hjl
      have hb := HBY.out bs[j] (List.getElem_mem _)
      have hv := valL_lt (xs := bs.take j) (fun x hx => HBY.out x (List.mem_of_mem_take hx))
      rw [List.length_take, Nat.min_eq_left (by omega)] at hv
      have hv7 : valL (bs.take j) < 256 ^ 7 := Nat.lt_of_lt_of_le hv (Nat.pow_le_pow_right (by decide) (by omega))
      generalize bs[j] = x at hcell hst hb
      generalize valL (bs.take j) = v at hst hv7 ⊢
      obtain ⟨y, rfl⟩ : ∃ y : Nat, x = (y : Int) := ⟨x.toNat, by omega⟩
      have HST := Lib.hid hst
      have hy : y < 256 := by omega
      have hj0 : (0 : Int) ≤ (j : Int) := by omega
      have hjm : (j : Int) < (m : Int) := by omega
      clear hst hq hv hb hjl
      go_wp2_with fail
      refine ⟨⟨j + 1, by omega, by go_num, ?_⟩, by simp [intOf]; omega⟩
      rw [HST.out, or_shl v y hv7 hy]
      simp
    · obtain rfl : j = m := by omega
      go_wp2_with fail
      go_ret
      rw [List.take_of_length_le (by rw [← HM.out]; exact Nat.le_refl _)]
      exact ⟨rfl, HR.out, HF.out⟩
theorem or_i64 (x y : Nat) (hx : x < 256) (hy : y < 256) : bits .or .i64 ((x : Int) * 256) (y : Int) = ((x * 256 + y : Nat) : Int) := by
  rw [bits_join .i64 63 (by decide) (fun n h0 h1 => IntWalk.i64_in n (by omega)) 8 _ _ (by omega) (by omega) (by omega) (by omega) (by omega) (by omega)]
  simp
theorem val2 {xs : List Int} (hb : Byt xs) (h : 2 ≤ xs.length) : ∃ x y : Nat, x < 256 ∧ y < 256 ∧ xs[0]? = some (x : Int) ∧ xs[1]? = some (y : Int) ∧ valL (xs.take 2) = x * 256 + y := by
  match xs, h with
  | a :: b :: r, _ =>
    have ha := hb a (by simp)
    have hbb := hb b (by simp)
    refine ⟨a.toNat, b.toNat, by omega, by omega, by simp; omega, by simp; omega, by simp [valL]⟩
theorem RdIn.left1 {g : Nat} {s : Rs} {w : World} (h : RdIn w g s) (hl : 0 < s.left) : ∃ gA o c, Blk w g 133 #[.nilIface, .slice (some ⟨gA, o, none⟩) s.xs.length c] ∧ (∀ j x, s.xs[j]? = some x → w.cell? ⟨gA, o + j, none⟩ = some (.int .u8 x)) ∧ s.left = s.xs.length := by
  obtain ⟨he, hle⟩ := left_zero hl
  obtain ⟨A, c, hb, hr, hc⟩ := h.st
  obtain ⟨gA, o, rfl, -, -, hq⟩ := Rd.out hr (by omega) (by omega)
  rw [he, errV_zero] at hb
  refine ⟨gA, o, c, hb, fun j x hx => hq j _ ?_, hle⟩
  unfold u8s
  rw [List.getElem?_map, hx]
  rfl
end Go.Proofs.YteeclfejgpgooaaDoor
