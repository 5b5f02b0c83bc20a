/- Texts of one proof, one behind the other: LgP, LgT, LgC. No condition but each one's own. -/
import Derived.Test.YtpifnmlnhddgeaaGreatDoorVaultNilM3
import Derived.Test.YtpifnmlnhddgeaaGreatDoorVaultNilM10
import Derived.Test.YtpifnmlnhddgeaaGreatDoorVaultNilM2
import Derived.Test.YtpifnmlnhddgeaaGreatDoorVaultNilM4
import Derived.Test.YtpifnmlnhddgeaaGreatDoorVaultNilM18
import Derived.Test.YtpifnmlnhddgeaaGreatDoorVaultNilM6
namespace Go.Proofs.YtpifnmlnhddgeaaGreatDoor
set_option linter.unusedVariables false
set_option linter.unusedSimpArgs false
set_option linter.constructorNameAsVariable false
open Go.RowKit Go.Sort
structure LG where
 first : Nat
 size : Nat
 gen : Nat
 used : Nat
 tag : List Int
 broken : Bool
structure LG.Ok (l : LG) (n : Nat) : Prop where
 fit : l.first + l.size ≤ n
 gen : l.gen < 4294967296
 used : l.used ≤ l.size
 len : l.tag.length = 16
 byt : Byt l.tag
def secN (n : Nat) : Nat := (secs n).toNat
theorem secN_le (n : Nat) : secN n ≤ 1193 := by have := secs_le n; unfold secN; omega
theorem secs_N (n : Nat) : secs (n : Int) = (secN n : Int) := by have := secs_le n; unfold secN; omega
theorem secN_in {n : Nat} (h1 : 1 ≤ n) (h2 : n ≤ 65536) : secN n = (n + 74) / 55 := by unfold secN; rw [secs_in (by omega) (by omega)]; omega
theorem secN_pos {n : Nat} (h : secN n ≠ 0) : 1 ≤ n ∧ n ≤ 65536 ∧ secN n = (n + 74) / 55 := by
 by_cases h1 : 1 ≤ n ∧ n ≤ 65536
 · exact ⟨h1.1, h1.2, secN_in h1.1 h1.2⟩
 · exact absurd (by unfold secN; rw [secs_0 (by omega)]; rfl) h
def tagL (tag : List Int) (gen : Nat) (b : List Int) : List Int := (hsh (tag ++ beL 4 gen ++ b)).take 16
theorem tagL_len (t : List Int) (g : Nat) (b : List Int) : (tagL t g b).length = 16 := by simp [tagL, hsh_len]
theorem tagL_byt (t : List Int) (g : Nat) (b : List Int) : Byt (tagL t g b) := fun x hx => hsh_byt _ x (List.mem_of_mem_take hx)
def LG.hdr (l : LG) (i : Nat) : List Int := beL 4 l.gen ++ beL 4 (l.used + i) ++ [if i = 0 then 1 else 2]
theorem LG.hdr_len (l : LG) (i : Nat) : (l.hdr i).length = 9 := by simp [LG.hdr, beL_len]
theorem LG.hdr_byt (l : LG) (i : Nat) : Byt (l.hdr i) := by
 intro x hx
 unfold LG.hdr at hx
 simp only [List.mem_append, List.mem_singleton] at hx
 rcases hx with (hx | hx) | hx
 · exact beL_byt _ _ x hx
 · exact beL_byt _ _ x hx
 · rw [hx]; split <;> omega
def sct (p : DP) (l : LG) (i : Nat) : List Int := p.rget ((l.first + l.used + i : Nat) : Int)
theorem sct_ok {p : DP} (h : p.Ok) (l : LG) (i : Nat) : SecOk (sct p l i) := h.rget _
def frameL (p : DP) (l : LG) (k : Nat) : List Int := (List.range k).flatMap fun i => (sct p l i).drop 9
theorem frameL_succ (p : DP) (l : LG) (k : Nat) : frameL p l (k + 1) = frameL p l k ++ (sct p l k).drop 9 := by simp [frameL, List.range_succ]
theorem frameL_len {p : DP} (h : p.Ok) (l : LG) : ∀ k, (frameL p l k).length = 55 * k
 | 0 => rfl
 | k + 1 => by
  have := (sct_ok h l k).1
  rw [frameL_succ, List.length_append, List.length_drop, frameL_len h l k, this]
  omega
theorem frameL_byt {p : DP} (h : p.Ok) (l : LG) (k : Nat) : Byt (frameL p l k) := by
 intro x hx
 obtain ⟨i, -, hi⟩ := List.mem_flatMap.1 hx
 exact (sct_ok h l i).2 x (List.mem_of_mem_drop hi)
def LG.many (l : LG) (p : DP) : Nat := valL (((sct p l 0).drop 9).take 4)
def LG.body (l : LG) (p : DP) : List Int := ((frameL p l (secN (l.many p))).drop 20).take (l.many p)
structure LG.Next (l : LG) (p : DP) : Prop where
 room : l.used < l.size
 pos : secN (l.many p) ≠ 0
 fit : l.used + secN (l.many p) ≤ l.size
 hdr : ∀ i, i < secN (l.many p) → (sct p l i).take 9 = l.hdr i
 tag : ((frameL p l (secN (l.many p))).drop 4).take 16 = tagL l.tag l.gen (l.body p)
open Classical in
noncomputable def nextL (p : DP) (l : LG) : Option (List Int) := if l.Next p then some (l.body p) else none
theorem nextL_some {p : DP} {l : LG} (h : l.Next p) : nextL p l = some (l.body p) := by unfold nextL; exact if_pos h
theorem nextL_none {p : DP} {l : LG} (h : ¬ l.Next p) : nextL p l = none := by unfold nextL; exact if_neg h
def LG.step (l : LG) (b : List Int) : LG := { l with used := l.used + secN b.length, tag := tagL l.tag l.gen b }
theorem LG.body_len {p : DP} (h : p.Ok) {l : LG} (hp : secN (l.many p) ≠ 0) : (l.body p).length = l.many p := by
 have h1 := secN_pos hp
 unfold LG.body
 rw [List.length_take, List.length_drop, frameL_len h]
 omega
theorem LG.body_byt {p : DP} (h : p.Ok) (l : LG) : Byt (l.body p) := fun x hx => frameL_byt h l _ x (List.mem_of_mem_drop (List.mem_of_mem_take hx))
theorem LG.Next.ok {p : DP} {l : LG} {n : Nat} (h : l.Next p) (hp : p.Ok) (hl : l.Ok n) : (l.step (l.body p)).Ok n :=
 ⟨hl.fit, hl.gen, by have := h.fit; show l.used + secN (l.body p).length ≤ l.size; rw [LG.body_len hp h.pos]; exact this, tagL_len _ _ _, tagL_byt _ _ _⟩
noncomputable def runs (p : DP) (l : LG) : Nat → LG × List (List Int)
 | 0 => (l, [])
 | k + 1 => match nextL p (runs p l k).1 with | some b => ((runs p l k).1.step b, (runs p l k).2 ++ [b]) | none => runs p l k
theorem runs_some {p : DP} {l : LG} {k : Nat} {b : List Int} (h : nextL p (runs p l k).1 = some b) : runs p l (k + 1) = ((runs p l k).1.step b, (runs p l k).2 ++ [b]) := by
 simp only [runs, h]
theorem runs_none {p : DP} {l : LG} {k : Nat} (h : nextL p (runs p l k).1 = none) : ∀ j, runs p l (k + j) = runs p l k
 | 0 => rfl
 | j + 1 => by
  have ih := runs_none h j
  rw [← Nat.add_assoc]
  show (match nextL p (runs p l (k + j)).1 with | some b => ((runs p l (k + j)).1.step b, (runs p l (k + j)).2 ++ [b]) | none => runs p l (k + j)) = _
  rw [ih, h]
theorem runs_ok {p : DP} {l : LG} {n : Nat} (hp : p.Ok) (h : l.Ok n) : ∀ k, (runs p l k).1.Ok n ∧ (runs p l k).1.size = l.size ∧ (runs p l k).1.first = l.first ∧ (runs p l k).1.gen = l.gen ∧ (runs p l k).1.broken = l.broken
 | 0 => ⟨h, rfl, rfl, rfl, rfl⟩
 | k + 1 => by
  obtain ⟨h1, h2, h3, h4, h5⟩ := runs_ok hp h k
  by_cases hx : (runs p l k).1.Next p
  · rw [runs_some (nextL_some hx)]
    exact ⟨hx.ok hp h1, h2, h3, h4, h5⟩
  · have := runs_none (nextL_none hx) 1
    rw [this]
    exact ⟨h1, h2, h3, h4, h5⟩
noncomputable def runL (p : DP) (l : LG) : LG × List (List Int) := runs p l (l.size + 1)
def wipeN (p : DP) (l : LG) : Nat → DP × Bool × Int
 | 0 => (p, false, 0)
 | k + 1 => let r := wipeN p l k
  if r.2.2 ≠ 0 then r else
  if valL ((sct r.1 l k).take 4) = l.gen then (r.1.doWrite ((l.first + l.used + k : Nat) : Int) sec0, (if r.1.wcode ((l.first + l.used + k : Nat) : Int) = 0 then true else r.2.1), r.1.wcode ((l.first + l.used + k : Nat) : Int))
  else r
def wipeL (p : DP) (l : LG) : DP × Int :=
 let r := wipeN p l (l.size - l.used)
 if r.2.2 ≠ 0 then (r.1, r.2.2) else if r.2.1 = true then (r.1.doSync, r.1.scode) else (r.1, 0)
def LG.frame (l : LG) (b : List Int) : List Int := beL 4 b.length ++ tagL l.tag l.gen b ++ b
theorem LG.frame_len (l : LG) (b : List Int) : (l.frame b).length = b.length + 20 := by simp [LG.frame, beL_len, tagL_len]; omega
theorem LG.frame_byt (l : LG) {b : List Int} (hb : Byt b) : Byt (l.frame b) := by
 intro x hx
 unfold LG.frame at hx
 simp only [List.mem_append] at hx
 rcases hx with (hx | hx) | hx
 · exact beL_byt _ _ x hx
 · exact tagL_byt _ _ _ x hx
 · exact hb x hx
def LG.raw (l : LG) (b : List Int) (i : Nat) : List Int := l.hdr i ++ ((l.frame b).drop (55 * i)).take 55
def pad64 (x : List Int) : List Int := x ++ List.replicate (64 - x.length) 0
def LG.sec (l : LG) (b : List Int) (i : Nat) : List Int := pad64 (l.raw b i)
theorem LG.raw_len (l : LG) (b : List Int) (i : Nat) : (l.raw b i).length ≤ 64 := by
 unfold LG.raw
 rw [List.length_append, LG.hdr_len, List.length_take]
 omega
theorem pad64_len {x : List Int} (h : x.length ≤ 64) : (pad64 x).length = 64 := by simp [pad64]; omega
theorem pad64_byt {x : List Int} (h : Byt x) : Byt (pad64 x) := by
 intro y hy
 unfold pad64 at hy
 rcases List.mem_append.1 hy with hy | hy
 · exact h y hy
 · have := List.eq_of_mem_replicate hy
   omega
theorem LG.raw_byt (l : LG) {b : List Int} (hb : Byt b) (i : Nat) : Byt (l.raw b i) := by
 intro x hx
 rcases List.mem_append.1 hx with hx | hx
 · exact l.hdr_byt i x hx
 · exact l.frame_byt hb x (List.mem_of_mem_drop (List.mem_of_mem_take hx))
theorem LG.sec_ok (l : LG) {b : List Int} (hb : Byt b) (i : Nat) : SecOk (l.sec b i) := ⟨pad64_len (l.raw_len b i), pad64_byt (l.raw_byt hb i)⟩
def writeN (p : DP) (l : LG) (b : List Int) : Nat → DP × Int
 | 0 => (p, 0)
 | k + 1 => let r := writeN p l b k
  if r.2 ≠ 0 then r else (r.1.doWrite ((l.first + l.used + k : Nat) : Int) (l.sec b k), r.1.wcode ((l.first + l.used + k : Nat) : Int))
def appL (p : DP) (l : LG) (b : List Int) : DP × LG × Int :=
 if secN b.length = 0 then (p, l, 2) else if l.broken = true then (p, l, 10) else if l.size - l.used < secN b.length then (p, l, 8) else
 let r := writeN p l b (secN b.length)
 if r.2 ≠ 0 then (r.1, { l with broken := true }, r.2) else (r.1, l.step b, 0)
def lgA (l : LG) (gd : Nat) : List Value := [.pointer (some ⟨gd, 0, none⟩), .int .i64 l.first, .int .i64 l.size, .int .u32 l.gen, .int .i64 l.used] ++ u8s l.tag ++ [.bool l.broken]
structure Lg (w : World) (gl gd : Nat) (l : LG) (n : Nat) : Prop where
 blk : Blk w gl 420 (lgA l gd).toArray
 ok : l.Ok n
theorem Lg.fr {S : Nat → Prop} {w w' : World} {gl gd n : Nat} {l : LG} (h : Lg w gl gd l n) (hF : Fr S w w') (hs : ¬ S gl) : Lg w' gl gd l n := ⟨h.blk.fr hF hs, h.ok⟩
theorem Lg.new {w w' : World} {gl gd n : Nat} {l : LG} (h : Lg w gl gd l n) (hN : New w w') : Lg w' gl gd l n := ⟨hN.blk h.blk, h.ok⟩
theorem Lg.c0 {w : World} {gl gd n : Nat} {l : LG} (h : Lg w gl gd l n) : w.cell? ⟨gl, 0, none⟩ = some (.pointer (some ⟨gd, 0, none⟩)) := h.blk.cell 0
theorem Lg.c1 {w : World} {gl gd n : Nat} {l : LG} (h : Lg w gl gd l n) : w.cell? ⟨gl, 1, none⟩ = some (.int .i64 l.first) := h.blk.cell 1
theorem Lg.c2 {w : World} {gl gd n : Nat} {l : LG} (h : Lg w gl gd l n) : w.cell? ⟨gl, 2, none⟩ = some (.int .i64 l.size) := h.blk.cell 2
theorem Lg.c3 {w : World} {gl gd n : Nat} {l : LG} (h : Lg w gl gd l n) : w.cell? ⟨gl, 3, none⟩ = some (.int .u32 l.gen) := h.blk.cell 3
theorem Lg.c4 {w : World} {gl gd n : Nat} {l : LG} (h : Lg w gl gd l n) : w.cell? ⟨gl, 4, none⟩ = some (.int .i64 l.used) := h.blk.cell 4
theorem Lg.cb {w : World} {gl gd n : Nat} {l : LG} (h : Lg w gl gd l n) : w.cell? ⟨gl, 21, none⟩ = some (.bool l.broken) := by
 rw [h.blk.cell 21, List.getElem?_toArray]
 unfold lgA
 rw [List.getElem?_append_right (by simp [u8s_len, h.ok.len])]
 simp [u8s_len, h.ok.len]
theorem lgA_len {l : LG} (h : l.tag.length = 16) (gd : Nat) : (lgA l gd).length = 22 := by simp [lgA, u8s_len, h]
theorem Lg.tagAt {w : World} {gl gd n : Nat} {l : LG} (h : Lg w gl gd l n) : w.rangeAt gl 5 (u8s l.tag) := fun j v hv => by
 rw [h.blk.cell, List.getElem?_toArray]
 have hj := (List.getElem?_eq_some_iff.1 hv).1
 unfold lgA
 rw [List.append_assoc, List.getElem?_append_right (by simp), List.getElem?_append_left (by simpa using hj)]
 simpa using hv
theorem Lg.setUsed {w : World} {gl gd n : Nat} {l : LG} (h : Lg w gl gd l n) (u : Nat) (hu : u ≤ l.size) : Lg (w.setCell ⟨gl, 4, none⟩ (.int .i64 u)) gl gd { l with used := u } n :=
 ⟨by
  have := h.blk.set 4 (.int .i64 u)
  rw [List.setIfInBounds_toArray] at this
  exact this, ⟨h.ok.fit, h.ok.gen, hu, h.ok.len, h.ok.byt⟩⟩
theorem Lg.setBroken {w : World} {gl gd n : Nat} {l : LG} (h : Lg w gl gd l n) (b : Bool) : Lg (w.setCell ⟨gl, 21, none⟩ (.bool b)) gl gd { l with broken := b } n :=
 ⟨by
  have := h.blk.set 21 (.bool b)
  rw [List.setIfInBounds_toArray] at this
  have e : (lgA l gd).set 21 (.bool b) = lgA { l with broken := b } gd := by
   unfold lgA
   rw [List.set_append_right _ _ (by simp [u8s_len, h.ok.len])]
   simp [u8s_len, h.ok.len]
  rw [e] at this
  exact this, ⟨h.ok.fit, h.ok.gen, h.ok.used, h.ok.len, h.ok.byt⟩⟩
theorem lgA_tag {l : LG} (h : l.tag.length = 16) (gd : Nat) (t : List Int) (ht : t.length = 16) : splice (lgA l gd) 5 (u8s t) = lgA { l with tag := t } gd := by
 unfold splice lgA
 rw [u8s_len, ht]
 have h5 : ([Value.pointer (some ⟨gd, 0, none⟩), .int .i64 l.first, .int .i64 l.size, .int .u32 l.gen, .int .i64 l.used] ++ u8s l.tag ++ [Value.bool l.broken]).drop (5 + 16) = [Value.bool l.broken] := by
  rw [List.drop_append_of_le_length (by simp [u8s_len, h]), List.drop_of_length_le (by simp [u8s_len, h])]
  rfl
 rw [h5]
 simp
end Go.Proofs.YtpifnmlnhddgeaaGreatDoor
namespace Go.Proofs.YtpifnmlnhddgeaaGreatDoor
set_option linter.unusedVariables false
set_option linter.unusedSimpArgs false
set_option linter.constructorNameAsVariable false
open Go.RowKit Go.Sort
theorem hashInfo : (Tryz.prog.info? 50).map (fun i => (i.zero, i.size)) = some (some (.agg (secA (List.replicate 32 0))), 32) := by kernel_rfl
theorem wpList_arr {P : Program} {ops : Array Oper} {rest : List Oper} {o : Oper} {a : Act} {w : World} {Q : Exit → Act → World → Prop} {T e : TypeId} {n len cap : Nat} {A : Option Addr} (hw : Region.wanted o (yielded ops a.tmps) = true) (x : Operand) (hop : o.op = .sliceToArrayPointer T x) (hx : a.eval x = .slice A len cap)
    (hu : P.underlying T = some (.array n e)) (hn : n ≤ len) (h : wpList P ops Q rest (a.put o.dst (.pointer A)) w) : wpList P ops Q (o :: rest) a w :=
 wpList_want hw fun K hK => by
  unfold Oper.wp execOp
  simp only [hop, hx, Sem.run_bind, run_arrayAt (P := P) (w := w) T e n A len cap hu hn, Result.andThen_ok, Sem.run_pure]
  exact hK _ _ h
theorem u8_3 (n : Nat) : IntKind.u8.wrap ((n : Int) / 16777216) = ((byteAt n 3 : Nat) : Int) := by
 rw [show (n : Int) / 16777216 = ((n / 16777216 : Nat) : Int) from by simp, u8_wrap]
 rfl
theorem u8_2 (n : Nat) : IntKind.u8.wrap ((n : Int) / 65536) = ((byteAt n 2 : Nat) : Int) := by
 rw [show (n : Int) / 65536 = ((n / 65536 : Nat) : Int) from by simp, u8_wrap]
 rfl
theorem u8_1 (n : Nat) : IntKind.u8.wrap ((n : Int) / 256) = ((byteAt n 1 : Nat) : Int) := by
 rw [show (n : Int) / 256 = ((n / 256 : Nat) : Int) from by simp, u8_wrap]
 rfl
theorem u8_0 (n : Nat) : IntKind.u8.wrap (n : Int) = ((byteAt n 0 : Nat) : Int) := by
 rw [u8_wrap]
 unfold byteAt
 rw [Nat.pow_zero, Nat.div_one]
theorem secA_take (s : List Int) {n : Nat} (h : n ≤ s.length) : ∀ {w : World} {g T : Nat}, Blk w g T (secA s) → w.rangeAt g 0 (u8s (s.take n)) := fun hb j v hv => by
 rw [hb.cell, Nat.zero_add]
 have hj := (List.getElem?_eq_some_iff.1 hv).1
 rw [u8s_len, List.length_take] at hj
 unfold secA
 rw [List.getElem?_toArray, ← hv]
 unfold u8s
 rw [List.getElem?_map, List.getElem?_map, List.getElem?_take_of_lt (by omega)]
set_option maxHeartbeats 2000000 in
set_option maxRecDepth 100000 in
theorem tagged_any {q : Nat → Prop} (tag : List Int) (gen : Nat) (A : Option Addr) (n c : Nat) (b : List Int) (w : World) (hL : ShaIn 1 0 w) (hR : Rd q w 1 A n (u8s b)) (hb : Byt b) (ht : tag.length = 16) (htb : Byt tag) (hg : gen < 4294967296) (hn : n ≤ 400000000) :
    Calls Tryz.prog 272 #[.agg (secA tag), .int .u32 gen, .slice A n c] w fun e w' => e = .returned (.agg (secA (tagL tag gen b))) ∧ New w w' := by
 have HL := Lib.hid hL
 have HR := Lib.hid hR
 have HB := Lib.hid hb
 have HT := Lib.hid (And.intro ht htb)
 have HX : Hid (b.length = n) := Lib.hid (by have := hR.1; rw [u8s_len] at this; omega)
 have hsz : (secA (tagL tag gen b)).size = 16 := by rw [secA_size, tagL_len]
 have HSZ := Lib.hid hsz
 have HTL : Hid (tagL tag gen b = (hsh ([tag, beL 4 gen, b].flatten)).take 16) := Lib.hid (by simp [tagL])
 obtain ⟨TL, hTL⟩ : ∃ TL, TL = tagL tag gen b := ⟨_, rfl⟩
 rw [← hTL] at HSZ HTL ⊢
 obtain ⟨TA, hTA⟩ : ∃ TA, TA = secA tag := ⟨_, rfl⟩
 have HTA := Lib.hid hTA
 rw [← hTA]
 have v3 := u8_3 gen
 have v2 := u8_2 gen
 have v1 := u8_1 gen
 have v0 := u8_0 gen
 have hg' : (gen : Int) < 4294967296 := by omega
 clear hL hR hb ht htb hsz hTL hTA
 go_enter Tryz.func272, Tryz.ntmps272
 go_upto_region 1 with fail
 have hz : (#[.int .u8 0, .int .u8 0, .int .u8 0, .int .u8 0, .int .u8 0, .int .u8 0, .int .u8 0, .int .u8 0, .int .u8 0, .int .u8 0, .int .u8 0, .int .u8 0, .int .u8 0, .int .u8 0, .int .u8 0, .int .u8 0] : Array Value) = secA (List.replicate 16 0) := rfl
 rw [hz]
 obtain ⟨w1, hw1⟩ : ∃ w1 : World, w1 = (w.alloc (.cells TA 43)).alloc (.cells (secA (List.replicate 16 0)) 43) := ⟨_, rfl⟩
 obtain ⟨b3, hb3⟩ : ∃ b3, b3 = w.heap.size := ⟨_, rfl⟩
 obtain ⟨b6, hb6⟩ : ∃ b6, b6 = w.heap.size + 1 := ⟨_, rfl⟩
 have HN1 : Hid (New w w1) := Lib.hid (by rw [hw1]; exact New.al (New.al (New.refl _) _) _)
 have HB3 : Hid (Blk w1 b3 43 (secA tag)) := Lib.hid (by rw [hw1, hb3, HTA.out]; exact (Blk.new _ _ _).alloc _)
 have HB6 : Hid (Blk w1 b6 43 (secA (List.replicate 16 0))) := Lib.hid (by rw [hw1, hb6, ← hz]; exact Blk.new' _ _ _ (by simp))
 have HZ : Hid (b3 = w.heap.size ∧ b6 = w.heap.size + 1) := Lib.hid ⟨hb3, hb6⟩
 rw [← hw1, ← hb6, ← hb3]
 clear hw1 hb3 hb6 hz
 go_wp2_with fail
 obtain ⟨w2, hw2⟩ : ∃ w2 : World, w2 = (w1.alloc (.cells #[.int .u8 (byteAt gen 3 : Nat), .int .u8 (byteAt gen 2 : Nat), .int .u8 (byteAt gen 1 : Nat), .int .u8 (byteAt gen 0 : Nat)] 5)).alloc (.cells #[.slice (some ⟨b3, 0, none⟩) 16 16, .slice (some ⟨w1.heap.size, 0, none⟩) 4 4, .slice A n c] 122) := ⟨_, rfl⟩
 obtain ⟨bp, hbp⟩ : ∃ bp, bp = w1.heap.size + 1 := ⟨_, rfl⟩
 have HN2 : Hid (New w1 w2) := Lib.hid (by rw [hw2]; exact New.al (New.al (New.refl _) _) _)
 have HP : Hid (Parts w2 bp 0 [tag, beL 4 gen, b]) := Lib.hid ⟨fun i l hl => by
  have hB : Blk w2 bp 122 #[.slice (some ⟨b3, 0, none⟩) 16 16, .slice (some ⟨w1.heap.size, 0, none⟩) 4 4, .slice A n c] := by rw [hw2, hbp]; exact Blk.new' _ _ _ (by simp)
  have hG : Blk w2 w1.heap.size 5 #[.int .u8 (byteAt gen 3 : Nat), .int .u8 (byteAt gen 2 : Nat), .int .u8 (byteAt gen 1 : Nat), .int .u8 (byteAt gen 0 : Nat)] := by rw [hw2]; exact (Blk.new _ _ _).alloc _
  match i, hl with
  | 0, hl =>
   obtain rfl : tag = l := by simpa using hl
   refine ⟨HT.out.2, some ⟨b3, 0, none⟩, 16, ?_, ?_⟩
   · rw [HT.out.1]; exact hB.cell 0
   · have h := Rd.ofBlk (p := fun _ => True) (HN2.out.blk HB3.out) 1 tag.length (by rw [secA_size]; omega) trivial
     rw [secA_list] at h
     exact h
  | 1, hl =>
   obtain rfl : beL 4 gen = l := by simpa using hl
   refine ⟨beL_byt _ _, some ⟨w1.heap.size, 0, none⟩, 4, hB.cell 1, ?_⟩
   exact Rd.ofBlk (p := fun _ => True) hG 1 4 rfl trivial
  | 2, hl =>
   obtain rfl : b = l := by simpa using hl
   refine ⟨HB.out, A, c, ?_, ?_⟩
   · rw [HX.out]; exact hB.cell 2
   · rw [HX.out]; exact (HN2.out.rd (HN1.out.rd HR.out)).imp (fun _ _ => trivial)
  | (i + 3), hl => simp at hl⟩
 rw [← hw2, ← hbp]
 clear hw2 hbp v3 v2 v1 v0
 have hfl : ([tag, beL 4 gen, b].flatten).length = n + 20 := by
  have := HX.out
  have := HT.out.1
  simp [beL_len]
  omega
 refine (of_any bp 0 3 [tag, beL 4 gen, b] 3 rfl w2 ((HL.out.new HN1.out).new HN2.out) (by simp) HP.out (by simp) (by omega) (by simp)).mono ?_
 rintro e w3 ⟨rfl, hN3⟩
 obtain ⟨HS, hHS⟩ : ∃ HS, HS = hsh [tag, beL 4 gen, b].flatten := ⟨_, rfl⟩
 rw [← hHS] at HTL ⊢
 have hl32 : HS.length = 32 := by rw [hHS]; exact hsh_len _
 have HS32 := Lib.hid hl32
 have HN3 := Lib.hid hN3
 have hsz3 : (secA HS).size = 32 := by rw [secA_size, hl32]
 have HZ3 := Lib.hid hsz3
 clear hN3 hHS hfl hl32 hsz3
 have HB6w : Hid (Blk w3 b6 43 (secA (List.replicate 16 0))) := Lib.hid (HN3.out.blk (HN2.out.blk HB6.out))
 go_upto_region 2 with ((with_reducible refine atOp ⟨some 7, .alloc _, _, _, _, _⟩ ?_); refine wpList_newvar (s := HS) rfl rfl rfl _ _ rfl hashInfo rfl rfl rfl HS32.out ?_)
 obtain ⟨w4, hw4⟩ : ∃ w4 : World, w4 = w3.alloc (.cells (secA HS) 50) := ⟨_, rfl⟩
 obtain ⟨b7, hb7⟩ : ∃ b7, b7 = w3.heap.size := ⟨_, rfl⟩
 have HB7 : Hid (Blk w4 b7 50 (secA HS)) := Lib.hid (by rw [hw4, hb7]; exact Blk.new _ _ _)
 have HN4 : Hid (New w3 w4) := Lib.hid (by rw [hw4]; exact New.al (New.refl _) _)
 have HB64 : Hid (Blk w4 b6 43 (secA (List.replicate 16 0))) := Lib.hid (HN4.out.blk HB6w.out)
 rw [← hw4, ← hb7]
 clear hw4 hb7 HB6w HB6
 have HTA : Hid (secA TL = secA (HS.take 16)) := Lib.hid (by rw [HTL.out])
 have HL16 : Hid ((u8s (HS.take 16)).length = 16) := Lib.hid (by rw [u8s_len, List.length_take, HS32.out]; rfl)
 refine wp_region_list ?_
 refine wpList_step fun K hK => ?_
 go_simp
 refine hK _ _ ?_
 clear hK K
 refine wpList_arr rfl _ rfl rfl Tryz.underlying43 (Nat.le_refl _) ?_
 refine wpList_load_range rfl _ rfl rfl (secA_take HS (n := 16) (by rw [HS32.out]; decide) HB7.out) Tryz.underlying43 rfl (by rw [HL16.out]; rfl) ?_
 refine wpList_store_any rfl (.tmp 6) (.tmp 26) rfl (cs := secA TL) (by rw [HSZ.out]; rfl) rfl (by rw [HTA.out]; rfl) HB64.out (by rw [HSZ.out, secA_size, List.length_replicate]) (secA_one _) ?_
 intro w8 hb8 hf8; have HB8 := Lib.hid hb8; have HF8 := Lib.hid hf8; clear hb8 hf8
 simp only [Act.put, List.setIfInBounds_toArray, List.set_cons_zero, List.set_cons_succ]
 go_wp2_with fail
 exact bodyPost_ret (v := .agg (secA TL)) (results_rowA rfl _ _ b6 _ _ rfl HB8.out Tryz.underlying43 rfl (by rw [HSZ.out]; rfl)) rfl ⟨rfl, ((((HN1.out.tr HN2.out).tr HN3.out).tr HN4.out)).fr HF8.out (fun k hk => by have := HZ.out; omega)⟩
end Go.Proofs.YtpifnmlnhddgeaaGreatDoor
namespace Go.Proofs.YtpifnmlnhddgeaaGreatDoor
set_option linter.unusedVariables false
set_option linter.unusedSimpArgs false
set_option linter.constructorNameAsVariable false
open Go.RowKit Go.Sort
theorem raw_of {xs : List Int} {k : Nat} (h : k ≤ xs.length) : (Rs.mk xs 0).raw k = (xs.take k, ⟨xs.drop k, 0⟩) := by
 have hl : (Rs.mk xs 0).left = xs.length := if_pos rfl
 unfold Rs.raw
 rw [hl, if_neg (by omega)]
theorem num_of {xs : List Int} {k : Nat} (h : k ≤ xs.length) : (Rs.mk xs 0).num k = (valL (xs.take k), ⟨xs.drop k, 0⟩) := by
 unfold Rs.num
 rw [raw_of h]
structure PartOk (s : List Int) (gen place kind : Nat) : Prop where
 g : valL (s.take 4) = gen
 p : valL ((s.drop 4).take 4) = place
 k : valL ((s.drop 8).take 1) = kind
def PartSays (r : Option (List Int)) (B : Nat) (e : Ending) (w' : World) : Prop :=
 match r with
 | none => e = .returned (.tuple #[.slice none 0 0, .bool false])
 | some f => ∃ A c, e = .returned (.tuple #[.slice A f.length c, .bool true]) ∧ w'.ownsRow B 5 1 (.slice A f.length c) f.length (u8s f)
theorem part_far {w : World} {gl gd n : Nat} {l : LG} (h : Lg w gl gd l n) (place kind : Nat) (hp : l.size ≤ place) (hn : n ≤ 16384) :
    Calls Tryz.prog 271 #[.pointer (some ⟨gl, 0, none⟩), .int .i64 place, .int .i64 kind] w fun e w' => PartSays none w.heap.size e w' ∧ w = w' := by
 have c2 := h.c2
 have hp' : (l.size : Int) ≤ (place : Int) := by omega
 clear h
 go_enter Tryz.func271, Tryz.ntmps271
 go_wp2_with fail
 go_ret2
 exact ⟨rfl, rfl⟩
set_option maxHeartbeats 4000000 in
set_option maxRecDepth 100000 in
theorem part_in {w : World} {gl gd base bs bf : Nat} {v : Value} {p : DP} {l : LG} (h : Lg w gl gd l p.size) (hD : Dk w base gd bs bf v p) (place kind : Nat) (hp : place < l.size) (hk : kind ≤ 2) (s : List Int) (hs : s = p.rget ((l.first + place : Nat) : Int)) :
    Calls Tryz.prog 271 #[.pointer (some ⟨gl, 0, none⟩), .int .i64 place, .int .i64 kind] w fun e w' => (PartOk s l.gen place kind → PartSays (some (s.drop 9)) w.heap.size e w') ∧ (¬ PartOk s l.gen place kind → PartSays none w.heap.size e w') ∧ New w w' := by
 have HLG := Lib.hid h
 have HD := Lib.hid hD
 have hsz := hD.ok.s2
 have hfit := h.ok.fit
 have hgen := h.ok.gen
 have HS : Hid (SecOk s) := Lib.hid (by rw [hs]; exact hD.ok.rget _)
 obtain ⟨a, ha⟩ : ∃ a, a = l.first + place := ⟨_, rfl⟩
 have e1 : (l.first : Int) + (place : Int) = (a : Int) := by omega
 have e2 : IntKind.i64.wrap (a : Int) = (a : Int) := IntWalk.i64_in _ (by omega)
 have HRC : Hid (p.rcode (a : Int) = 0) := Lib.hid (by unfold DP.rcode DP.within; rw [decide_eq_true (by omega), if_pos rfl])
 have HRG : Hid (p.rget (a : Int) = s) := Lib.hid (by rw [hs, ha])
 obtain ⟨fs, hfs⟩ : ∃ fs, fs = l.first := ⟨_, rfl⟩
 obtain ⟨sz, hsz2⟩ : ∃ sz, sz = l.size := ⟨_, rfl⟩
 obtain ⟨gen, hgn⟩ : ∃ gen, gen = l.gen := ⟨_, rfl⟩
 have c0 := h.c0
 have c1 := h.c1
 have c2 := h.c2
 have c3 := h.c3
 rw [← hfs] at c1 e1
 have hsz3 : sz ≤ 16384 := by omega
 rw [← hsz2] at c2 hp
 rw [← hgn] at c3 hgen ⊢
 have q0 : ∀ p : HW (New w), p.w.cell? ⟨gl, 0, none⟩ = some (.pointer (some ⟨gd, 0, none⟩)) := fun p => p.h.cell_ c0
 have q1 : ∀ p : HW (New w), p.w.cell? ⟨gl, 1, none⟩ = some (.int .i64 fs) := fun p => p.h.cell_ c1
 have HC3 := Lib.hid c3
 have hszA : (secA s).size = 64 := by rw [secA_size, HS.out.1]
 have HSZ := Lib.hid hszA
 clear hszA h hD hs ha hfs hsz2 hgn c0 c1 c3 hfit
 have hpl : (place : Int) < (sz : Int) := by omega
 go_enter Tryz.func271, Tryz.ntmps271
 go_wp2_with fail
 apply wp_join (α := Nat) (fun b w3 => New w w3 ∧ Blk w3 b 155 (secA s))
 case h1 =>
  intro K' hK'
  refine wp_region_tree (New w) (.take 0 (.take 1 (.take 2 (.take 3 (.take 4 (.take 5 (.take 6 (.take 7 (.take 8 (.take 9 (.two 10 (.take 11 (.take 12 (.take 13 (.act 14 (.act 15 (.take 16 .done)))))) 14 (.act 10 (.take 11 (.take 12 (.take 13 (.act 15 (.take 16 .done))))))))))))))))) (by kernel_rfl) (by kernel_rfl) (New.dr (New.refl w)) (fun hne => ?_)
  iterate 10 (refine tree_take (o := ⟨_, _, _, _, _, _⟩) rfl (fun K hK => ?_); go_simp; refine hK _ ?_; clear hK K)
  refine ⟨?_, ?_⟩
  · refine act_ok (o := ⟨_, _, _, _, _, _⟩) rfl (fun K hK => ?_) (.inl rfl)
    go_simp
    refine (read_all (HD.out.new (New.dr (New.refl w))) (a : Int)).mono ?_
    rintro e w1 ⟨rfl, hN1⟩
    rw [HRG.out, HRC.out, errD_0]
    have HN1 : Hid (New w w1) := Lib.hid (New.tr (New.dr (New.refl w)) hN1)
    clear hN1
    go_simp
    refine hK.out _ _ HN1.out ?_
    clear hK K
    iterate 3 (refine tree_take (o := ⟨_, _, _, _, _, _⟩) rfl (fun K hK => ?_); go_simp; refine hK _ ?_; clear hK K)
    refine act_alloc (o := ⟨_, _, _, _, _, _⟩) rfl rfl rfl secInfo ?_
    intro b8 w2 hb8 hB2 hN2
    have HL2 : Hid (w.heap.size ≤ b8) := Lib.hid (by have := HN1.out.size; omega)
    refine ⟨HN1.out.tr hN2, ?_⟩
    clear hb8
    simp only [Act.put, List.setIfInBounds_toArray, List.set_cons_zero, List.set_cons_succ]
    refine act_store (o := ⟨_, _, _, _, _, _⟩) (cs := secA s) rfl rfl (.tmp 8) (.tmp 29) rfl (by rw [HSZ.out]; rfl) rfl rfl hB2 (by rw [HSZ.out]; rfl) (secA_one _) ?_
    intro w3 hB3 hF3
    have hN3 : New w w3 := (HN1.out.tr hN2).fr hF3 (fun k hk => by have := HL2.out; omega)
    refine ⟨hN3, ?_⟩
    simp only [Act.put, List.setIfInBounds_toArray, List.set_cons_zero, List.set_cons_succ]
    refine tree_take (o := ⟨_, _, _, _, _, _⟩) rfl (fun K hK => ?_); go_simp; refine hK _ ?_; clear hK K
    refine tree_done ?_
    exact hK'.out b8 w3 ⟨hN3, hB3⟩
  · refine act_alloc (o := ⟨_, _, _, _, _, _⟩) rfl rfl rfl secInfo ?_
    intro b8 w2 hb8 hB2 hN2
    have HN2 : Hid (New w w2) := Lib.hid ((New.dr (New.refl w)).tr hN2)
    have HB2 := Lib.hid hB2
    have HL2 : Hid (w.heap.size ≤ b8) := Lib.hid (by rw [hb8]; exact Nat.le_refl _)
    refine ⟨HN2.out, ?_⟩
    clear hb8 hB2 hN2
    simp only [Act.put, List.setIfInBounds_toArray, List.set_cons_zero, List.set_cons_succ]
    refine tree_act (o := ⟨_, _, _, _, _, _⟩) rfl (fun K hK => ?_) (.inl rfl)
    go_simp
    refine (read_all (HD.out.new HN2.out) (a : Int)).mono ?_
    rintro e w1 ⟨rfl, hN1⟩
    rw [HRG.out, HRC.out, errD_0]
    have HB1 := Lib.hid (hN1.blk HB2.out)
    have HN1 : Hid (New w w1) := Lib.hid (HN2.out.tr hN1)
    clear hN1
    go_simp
    refine hK.out _ _ HN1.out ?_
    clear hK K
    iterate 3 (refine tree_take (o := ⟨_, _, _, _, _, _⟩) rfl (fun K hK => ?_); go_simp; refine hK _ ?_; clear hK K)
    refine act_store (o := ⟨_, _, _, _, _, _⟩) (cs := secA s) rfl rfl (.tmp 8) (.tmp 29) rfl (by rw [HSZ.out]; rfl) rfl rfl HB1.out (by rw [HSZ.out]; rfl) (secA_one _) ?_
    intro w3 hB3 hF3
    have hN3 : New w w3 := HN1.out.fr hF3 (fun k hk => by have := HL2.out; omega)
    refine ⟨hN3, ?_⟩
    simp only [Act.put, List.setIfInBounds_toArray, List.set_cons_zero, List.set_cons_succ]
    refine tree_take (o := ⟨_, _, _, _, _, _⟩) rfl (fun K hK => ?_); go_simp; refine hK _ ?_; clear hK K
    refine tree_done ?_
    exact hK'.out b8 w3 ⟨hN3, hB3⟩
 case h2 =>
  rintro b8 w3 ⟨hN3, hB3⟩
  have HN3 := Lib.hid hN3
  have HB3 := Lib.hid hB3
  clear hN3 hB3 q0 q1 e1 e2 c2
  go_wp2_with fail
  have hR3 : Rd (fun _ => True) w3 1 (some ⟨b8, 0, none⟩) 64 (u8s s) := by
   have h := Rd.ofBlk (p := fun _ => True) HB3.out 1 64 (by rw [HSZ.out]) trivial
   rwa [secA_list] at h
  refine (from_any (some ⟨b8, 0, none⟩) 64 64 s w3 hR3 HS.out.2 (by omega)).mono ?_
  rintro e w4 ⟨r, rfl, hRI, hN4, hr⟩
  have HRI := Lib.hid hRI
  have HN4 : Hid (New w w4) := Lib.hid (HN3.out.tr hN4)
  have HRL : Hid (w.heap.size ≤ r) := Lib.hid (by have := HN3.out.size; omega)
  have HGL : Hid (gl ≠ r) := Lib.hid (by have := HLG.out.blk.lt; have := HRL.out; omega)
  clear hR3 hRI hN4 hr
  have HC4 : Hid (w4.cell? ⟨gl, 3, none⟩ = some (.int .u32 gen)) := Lib.hid (HN4.out.cell_ HC3.out)
  have HL64 : Hid (s.length = 64) := Lib.hid HS.out.1
  have q3 : ∀ p : HW (CellIs ⟨gl, 3, none⟩ (.int .u32 gen)), p.w.cell? ⟨gl, 3, none⟩ = some (.int .u32 gen) := CellIs.all _ _
  have x1 := num_of (xs := s) (k := 4) (by rw [HL64.out]; decide)
  have x2 := num_of (xs := s.drop 4) (k := 4) (by rw [List.length_drop, HL64.out]; decide)
  have x3 := num_of (xs := s.drop 8) (k := 1) (by rw [List.length_drop, HL64.out]; decide)
  have X1 := Lib.hid x1
  have X2 : Hid ((Rs.mk (s.drop 4) 0).num 4 = (valL ((s.drop 4).take 4), ⟨s.drop 8, 0⟩)) := Lib.hid (by rw [x2, List.drop_drop])
  have X3 : Hid ((Rs.mk (s.drop 8) 0).num 1 = (valL ((s.drop 8).take 1), ⟨s.drop 9, 0⟩)) := Lib.hid (by rw [x3, List.drop_drop])
  have hb1 : valL (s.take 4) < 18446744073709551616 := by
   have := valL_lt (xs := s.take 4) (fun x hx => HS.out.2 x (List.mem_of_mem_take hx))
   rw [List.length_take, HL64.out] at this
   exact Nat.lt_of_lt_of_le this (by decide)
  clear x1 x2 x3
  obtain ⟨v1, hv1⟩ : ∃ v1, v1 = valL (s.take 4) := ⟨_, rfl⟩
  obtain ⟨v2, hv2⟩ : ∃ v2, v2 = valL ((s.drop 4).take 4) := ⟨_, rfl⟩
  obtain ⟨v3, hv3⟩ : ∃ v3, v3 = valL ((s.drop 8).take 1) := ⟨_, rfl⟩
  have HV : Hid (v1 = valL (s.take 4) ∧ v2 = valL ((s.drop 4).take 4) ∧ v3 = valL ((s.drop 8).take 1)) := Lib.hid ⟨hv1, hv2, hv3⟩
  rw [← hv1] at X1 hb1
  rw [← hv2] at X2
  rw [← hv3] at X3
  clear hv1 hv2 hv3 hb1
  have k1 : IntKind.u64.wrap (place : Int) = (place : Int) := by rw [IntKind.wrap_u64]; omega
  have kg : IntKind.u64.wrap (gen : Int) = (gen : Int) := by rw [IntKind.wrap_u64]; omega
  have k2 : IntKind.u64.wrap (kind : Int) = (kind : Int) := by rw [IntKind.wrap_u64]; omega
  have hgen2 : (gen : Int) < 4294967296 := by omega
  have hsc : s.length = 64 := HL64.out
  by_cases t1 : v1 = gen
  · have d1 : (v1 : Int) = (gen : Int) := by omega
    by_cases t2 : v2 = place
    · have d2 : (v2 : Int) = (place : Int) := by omega
      by_cases t3 : v3 = kind
      · have d3 : (v3 : Int) = (kind : Int) := by omega
        have x9 := raw_of (xs := s.drop 9) (k := 55) (by rw [List.length_drop, HL64.out]; decide)
        have h55 : (s.drop 9).length = 55 := by rw [List.length_drop, HL64.out]
        have e55 : (s.drop 9).take 55 = s.drop 9 := List.take_of_length_le (by rw [h55]; exact Nat.le_refl _)
        have f55 : (s.drop 9).drop 55 = [] := List.drop_of_length_le (by rw [h55]; exact Nat.le_refl _)
        have X9 : Hid ((Rs.mk (s.drop 9) 0).raw 55 = (s.drop 9, ⟨[], 0⟩)) := Lib.hid (by rw [x9, e55, f55])
        have H55 := Lib.hid h55
        clear h55 e55 f55
        clear x9
        go_wp2_with fail
        refine wp_region_mixH (CellIs ⟨gl, 3, none⟩ (.int .u32 gen)) [(true, 0), (true, 2), (true, 3), (true, 4), (true, 5), (true, 6), (false, 1), (true, 7), (true, 8), (true, 9), (true, 11), (true, 12), (false, 10), (true, 13), (true, 14), (true, 15), (true, 16), (true, 18), (true, 19), (false, 17), (true, 20), (true, 21)] (by kernel_rfl) (by kernel_rfl) ((New.dr (New.refl _)).cell_ HC4.out) (fun hne => ?_)
        iterate 6 (refine mix_take (o := ⟨_, _, _, _, _, _⟩) rfl (fun K hK => ?_); go_simp; refine hK _ ?_; clear hK K)
        refine mix_act (o := ⟨_, _, _, _, _, _⟩) rfl (fun K hK => ?_) (.inl rfl)
        go_simp
        refine (rnum_any (HRI.out.new (New.dr (New.refl _))) 4 (by omega)).mono ?_
        rintro e w5 ⟨rfl, hRI1, hF1⟩
        rw [X1.out] at hRI1 ⊢
        have HC5 : Hid (w5.cell? ⟨gl, 3, none⟩ = some (.int .u32 gen)) := Lib.hid (hF1.cell_some ((New.dr (New.refl w4)).cell_ HC4.out) HGL.out)
        have HN5 : Hid (New w w5) := Lib.hid ((New.dr HN4.out).fr hF1 (fun k hk => by have := HRL.out; omega))
        have HRI1 := Lib.hid hRI1
        clear hRI1 hF1
        go_simp
        refine hK.out _ _ (fun _ => HC5.out) ?_
        clear hK K
        iterate 5 (refine mix_take (o := ⟨_, _, _, _, _, _⟩) rfl (fun K hK => ?_); go_simp; refine hK _ ?_; clear hK K)
        refine mix_act (o := ⟨_, _, _, _, _, _⟩) rfl (fun K hK => ?_) (.inl rfl)
        go_simp
        refine (rnum_any HRI1.out 4 (by omega)).mono ?_
        rintro e w6 ⟨rfl, hRI2, hF2⟩
        rw [X2.out] at hRI2 ⊢
        have HC6 : Hid (w6.cell? ⟨gl, 3, none⟩ = some (.int .u32 gen)) := Lib.hid (hF2.cell_some HC5.out HGL.out)
        have HN6 : Hid (New w w6) := Lib.hid (HN5.out.fr hF2 (fun k hk => by have := HRL.out; omega))
        have HRI2 := Lib.hid hRI2
        clear hRI2 hF2
        go_simp
        refine hK.out _ _ (fun _ => HC6.out) ?_
        clear hK K
        iterate 6 (refine mix_take (o := ⟨_, _, _, _, _, _⟩) rfl (fun K hK => ?_); go_simp; refine hK _ ?_; clear hK K)
        refine mix_act (o := ⟨_, _, _, _, _, _⟩) rfl (fun K hK => ?_) (.inl rfl)
        go_simp
        refine (rnum_any HRI2.out 1 (by omega)).mono ?_
        rintro e w7 ⟨rfl, hRI3, hF3⟩
        rw [X3.out] at hRI3 ⊢
        have HC7 : Hid (w7.cell? ⟨gl, 3, none⟩ = some (.int .u32 gen)) := Lib.hid (hF3.cell_some HC6.out HGL.out)
        have HN7 : Hid (New w w7) := Lib.hid (HN6.out.fr hF3 (fun k hk => by have := HRL.out; omega))
        have HRI3 := Lib.hid hRI3
        clear hRI3 hF3
        go_simp
        refine hK.out _ _ (fun _ => HC7.out) ?_
        clear hK K
        iterate 2 (refine mix_take (o := ⟨_, _, _, _, _, _⟩) rfl (fun K hK => ?_); go_simp; refine hK _ ?_; clear hK K)
        refine mix_done ?_
        go_wp2_with fail
        refine (rraw_any HRI3.out 55 (by omega)).mono ?_
        rintro e w8 ⟨⟨A, c, rfl, hO⟩, -, hF8⟩
        rw [X9.out] at hO ⊢
        dsimp only at hO ⊢
        rw [H55.out] at hO ⊢
        have HO := Lib.hid hO
        have HN8 : Hid (New w w8) := Lib.hid (HN7.out.fr hF8 (fun k hk => by have := HRL.out; omega))
        clear hO hF8
        go_wp2_with fail
        go_ret2
        exact ⟨fun _ => ⟨A, c, by rw [H55.out]; rfl, by rw [H55.out]; exact own_base HO.out (fun k hk => by have := (own_lt HO.out k hk).1; have := HN7.out.size; omega)⟩, fun h => absurd ⟨by have := HV.out; omega, by have := HV.out; omega, by have := HV.out; omega⟩ h, HN8.out⟩
      · have d3 : ¬ ((v3 : Int) = (kind : Int)) := by omega
        go_wp2_with fail
        refine wp_region_mixH (CellIs ⟨gl, 3, none⟩ (.int .u32 gen)) [(true, 0), (true, 2), (true, 3), (true, 4), (true, 5), (true, 6), (false, 1), (true, 7), (true, 8), (true, 9), (true, 11), (true, 12), (false, 10), (true, 13), (true, 14), (true, 15), (true, 16), (true, 18), (true, 19), (false, 17), (true, 20), (true, 21)] (by kernel_rfl) (by kernel_rfl) ((New.dr (New.refl _)).cell_ HC4.out) (fun hne => ?_)
        iterate 6 (refine mix_take (o := ⟨_, _, _, _, _, _⟩) rfl (fun K hK => ?_); go_simp; refine hK _ ?_; clear hK K)
        refine mix_act (o := ⟨_, _, _, _, _, _⟩) rfl (fun K hK => ?_) (.inl rfl)
        go_simp
        refine (rnum_any (HRI.out.new (New.dr (New.refl _))) 4 (by omega)).mono ?_
        rintro e w5 ⟨rfl, hRI1, hF1⟩
        rw [X1.out] at hRI1 ⊢
        have HC5 : Hid (w5.cell? ⟨gl, 3, none⟩ = some (.int .u32 gen)) := Lib.hid (hF1.cell_some ((New.dr (New.refl w4)).cell_ HC4.out) HGL.out)
        have HN5 : Hid (New w w5) := Lib.hid ((New.dr HN4.out).fr hF1 (fun k hk => by have := HRL.out; omega))
        have HRI1 := Lib.hid hRI1
        clear hRI1 hF1
        go_simp
        refine hK.out _ _ (fun _ => HC5.out) ?_
        clear hK K
        iterate 5 (refine mix_take (o := ⟨_, _, _, _, _, _⟩) rfl (fun K hK => ?_); go_simp; refine hK _ ?_; clear hK K)
        refine mix_act (o := ⟨_, _, _, _, _, _⟩) rfl (fun K hK => ?_) (.inl rfl)
        go_simp
        refine (rnum_any HRI1.out 4 (by omega)).mono ?_
        rintro e w6 ⟨rfl, hRI2, hF2⟩
        rw [X2.out] at hRI2 ⊢
        have HC6 : Hid (w6.cell? ⟨gl, 3, none⟩ = some (.int .u32 gen)) := Lib.hid (hF2.cell_some HC5.out HGL.out)
        have HN6 : Hid (New w w6) := Lib.hid (HN5.out.fr hF2 (fun k hk => by have := HRL.out; omega))
        have HRI2 := Lib.hid hRI2
        clear hRI2 hF2
        go_simp
        refine hK.out _ _ (fun _ => HC6.out) ?_
        clear hK K
        iterate 6 (refine mix_take (o := ⟨_, _, _, _, _, _⟩) rfl (fun K hK => ?_); go_simp; refine hK _ ?_; clear hK K)
        refine mix_act (o := ⟨_, _, _, _, _, _⟩) rfl (fun K hK => ?_) (.inl rfl)
        go_simp
        refine (rnum_any HRI2.out 1 (by omega)).mono ?_
        rintro e w7 ⟨rfl, hRI3, hF3⟩
        rw [X3.out] at hRI3 ⊢
        have HC7 : Hid (w7.cell? ⟨gl, 3, none⟩ = some (.int .u32 gen)) := Lib.hid (hF3.cell_some HC6.out HGL.out)
        have HN7 : Hid (New w w7) := Lib.hid (HN6.out.fr hF3 (fun k hk => by have := HRL.out; omega))
        have HRI3 := Lib.hid hRI3
        clear hRI3 hF3
        go_simp
        refine hK.out _ _ (fun _ => HC7.out) ?_
        clear hK K
        iterate 2 (refine mix_take (o := ⟨_, _, _, _, _, _⟩) rfl (fun K hK => ?_); go_simp; refine hK _ ?_; clear hK K)
        refine mix_done ?_
        have T3 := Lib.hid t3
        clear t1 t2 d1 d2 k1 k2 kg q3 hne hsc hgen2 hgen hpl t3
        go_wp2_with fail
        go_ret2
        exact ⟨fun h => absurd h (fun h => by have := HV.out; have := h.k; have := T3.out; omega), fun _ => rfl, HN7.out⟩
    · have d2 : ¬ ((v2 : Int) = (place : Int)) := by omega
      go_wp2_with fail
      refine wp_region_mixH (CellIs ⟨gl, 3, none⟩ (.int .u32 gen)) [(true, 0), (true, 2), (true, 3), (true, 4), (true, 5), (true, 6), (false, 1), (true, 7), (true, 8), (true, 9), (true, 11), (true, 12), (false, 10), (true, 13), (true, 14), (true, 15), (true, 16), (true, 18), (true, 19), (false, 17), (true, 20), (true, 21)] (by kernel_rfl) (by kernel_rfl) ((New.dr (New.refl _)).cell_ HC4.out) (fun hne => ?_)
      iterate 6 (refine mix_take (o := ⟨_, _, _, _, _, _⟩) rfl (fun K hK => ?_); go_simp; refine hK _ ?_; clear hK K)
      refine mix_act (o := ⟨_, _, _, _, _, _⟩) rfl (fun K hK => ?_) (.inl rfl)
      go_simp
      refine (rnum_any (HRI.out.new (New.dr (New.refl _))) 4 (by omega)).mono ?_
      rintro e w5 ⟨rfl, hRI1, hF1⟩
      rw [X1.out] at hRI1 ⊢
      have HC5 : Hid (w5.cell? ⟨gl, 3, none⟩ = some (.int .u32 gen)) := Lib.hid (hF1.cell_some ((New.dr (New.refl w4)).cell_ HC4.out) HGL.out)
      have HN5 : Hid (New w w5) := Lib.hid ((New.dr HN4.out).fr hF1 (fun k hk => by have := HRL.out; omega))
      have HRI1 := Lib.hid hRI1
      clear hRI1 hF1
      go_simp
      refine hK.out _ _ (fun _ => HC5.out) ?_
      clear hK K
      iterate 5 (refine mix_take (o := ⟨_, _, _, _, _, _⟩) rfl (fun K hK => ?_); go_simp; refine hK _ ?_; clear hK K)
      refine mix_act (o := ⟨_, _, _, _, _, _⟩) rfl (fun K hK => ?_) (.inl rfl)
      go_simp
      refine (rnum_any HRI1.out 4 (by omega)).mono ?_
      rintro e w6 ⟨rfl, hRI2, hF2⟩
      rw [X2.out] at hRI2 ⊢
      have HC6 : Hid (w6.cell? ⟨gl, 3, none⟩ = some (.int .u32 gen)) := Lib.hid (hF2.cell_some HC5.out HGL.out)
      have HN6 : Hid (New w w6) := Lib.hid (HN5.out.fr hF2 (fun k hk => by have := HRL.out; omega))
      have HRI2 := Lib.hid hRI2
      clear hRI2 hF2
      go_simp
      refine hK.out _ _ (fun _ => HC6.out) ?_
      clear hK K
      iterate 6 (refine mix_take (o := ⟨_, _, _, _, _, _⟩) rfl (fun K hK => ?_); go_simp; refine hK _ ?_; clear hK K)
      refine mix_act (o := ⟨_, _, _, _, _, _⟩) rfl (fun K hK => ?_) (.inr HC6.out)
      go_simp
      refine hK.out _ _ (fun _ => HC6.out) ?_
      clear hK K
      iterate 2 (refine mix_take (o := ⟨_, _, _, _, _, _⟩) rfl (fun K hK => ?_); go_simp; refine hK _ ?_; clear hK K)
      refine mix_done ?_
      go_wp2_with fail
      go_ret2
      exact ⟨fun h => absurd h (fun h => by have := HV.out; have := h.p; omega), fun _ => rfl, HN6.out⟩
  · have d1 : ¬ ((v1 : Int) = (gen : Int)) := by omega
    go_wp2_with fail
    refine wp_region_mixH (CellIs ⟨gl, 3, none⟩ (.int .u32 gen)) [(true, 0), (true, 2), (true, 3), (true, 4), (true, 5), (true, 6), (false, 1), (true, 7), (true, 8), (true, 9), (true, 11), (true, 12), (false, 10), (true, 13), (true, 14), (true, 15), (true, 16), (true, 18), (true, 19), (false, 17), (true, 20), (true, 21)] (by kernel_rfl) (by kernel_rfl) ((New.dr (New.refl _)).cell_ HC4.out) (fun hne => ?_)
    iterate 6 (refine mix_take (o := ⟨_, _, _, _, _, _⟩) rfl (fun K hK => ?_); go_simp; refine hK _ ?_; clear hK K)
    refine mix_act (o := ⟨_, _, _, _, _, _⟩) rfl (fun K hK => ?_) (.inl rfl)
    go_simp
    refine (rnum_any (HRI.out.new (New.dr (New.refl _))) 4 (by omega)).mono ?_
    rintro e w5 ⟨rfl, hRI1, hF1⟩
    rw [X1.out] at hRI1 ⊢
    have HC5 : Hid (w5.cell? ⟨gl, 3, none⟩ = some (.int .u32 gen)) := Lib.hid (hF1.cell_some ((New.dr (New.refl w4)).cell_ HC4.out) HGL.out)
    have HN5 : Hid (New w w5) := Lib.hid ((New.dr HN4.out).fr hF1 (fun k hk => by have := HRL.out; omega))
    have HRI1 := Lib.hid hRI1
    clear hRI1 hF1
    go_simp
    refine hK.out _ _ (fun _ => HC5.out) ?_
    clear hK K
    iterate 5 (refine mix_take (o := ⟨_, _, _, _, _, _⟩) rfl (fun K hK => ?_); go_simp; refine hK _ ?_; clear hK K)
    refine mix_act (o := ⟨_, _, _, _, _, _⟩) rfl (fun K hK => ?_) (.inr HC5.out)
    go_simp
    refine hK.out _ _ (fun _ => HC5.out) ?_
    clear hK K
    iterate 6 (refine mix_take (o := ⟨_, _, _, _, _, _⟩) rfl (fun K hK => ?_); go_simp; refine hK _ ?_; clear hK K)
    refine mix_act (o := ⟨_, _, _, _, _, _⟩) rfl (fun K hK => ?_) (.inr HC5.out)
    go_simp
    refine hK.out _ _ (fun _ => HC5.out) ?_
    clear hK K
    iterate 2 (refine mix_take (o := ⟨_, _, _, _, _, _⟩) rfl (fun K hK => ?_); go_simp; refine hK _ ?_; clear hK K)
    refine mix_done ?_
    go_wp2_with fail
    go_ret2
    exact ⟨fun h => absurd h (fun h => by have := HV.out; have := h.g; omega), fun _ => rfl, HN5.out⟩
end Go.Proofs.YtpifnmlnhddgeaaGreatDoor
