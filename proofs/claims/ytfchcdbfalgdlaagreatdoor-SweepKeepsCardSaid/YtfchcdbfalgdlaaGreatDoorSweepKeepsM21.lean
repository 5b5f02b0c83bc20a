/- Texts of one proof, one behind the other: KvO, KvQ, KvR, KvU, OcF, KvV. No condition but each one's own. -/
import Derived.Test.YtfchcdbfalgdlaaGreatDoorSweepKeepsM20
import Derived.Sort.Walk0
import Derived.Test.YtfchcdbfalgdlaaGreatDoorSweepKeepsM7
import Derived.OpenShut
import Derived.Test.YtfchcdbfalgdlaaGreatDoorSweepKeepsM4
import Derived.Test.YtfchcdbfalgdlaaGreatDoorSweepKeepsM10
namespace Go.Proofs.YtfchcdbfalgdlaaGreatDoor
set_option linter.unusedVariables false
set_option linter.unusedSimpArgs false
set_option linter.constructorNameAsVariable false
open Go.RowKit Go.Maps Go.Sort
theorem szs {P : Nat → Prop} {w : World} {x : Fm} (h : x.In P w) : x.In (fun b => b < w.heap.size) w := ⟨rd_szs h.rd, h.byt⟩
theorem Ch.In.szs {P : Nat → Prop} {w : World} {c : Ch} (h : c.In P w) : c.In (fun b => b < w.heap.size) w := ⟨Go.Proofs.YtfchcdbfalgdlaaGreatDoor.szs h.k, Go.Proofs.YtfchcdbfalgdlaaGreatDoor.szs h.v⟩
structure RTb (w : World) (A : Option Addr) (n : Nat) (L : List Ch) : Prop where
 rd : Rd (fun b => b < w.heap.size) w 3 A n (L.flatMap Ch.cells)
 len : L.length = n
 el : ∀ c ∈ L, c.In (fun b => b < w.heap.size) w
theorem cells_len (L : List Ch) : (L.flatMap Ch.cells).length = L.length * 3 := by
 induction L with
 | nil => rfl
 | cons c L ih => rw [List.flatMap_cons, List.length_append, ih]; simp [Ch.cells]; omega
theorem RTb.new {w w' : World} {A : Option Addr} {n : Nat} {L : List Ch} (h : RTb w A n L) (hN : New w w') : RTb w' A n L :=
 ⟨rd_szs (hN.rd h.rd), h.len, fun c hc => Ch.In.szs ((h.el c hc).new hN)⟩
end Go.Proofs.YtfchcdbfalgdlaaGreatDoor
namespace Go.Proofs.YtfchcdbfalgdlaaGreatDoor
set_option linter.unusedVariables false
set_option linter.unusedSimpArgs false
set_option linter.constructorNameAsVariable false
open Go.RowKit Go.Maps Go.Sort
def cl (L : List Ch) : CT := L.map fun c => (c.k.xs, c.v.xs)
structure Kn (T : CT) : Prop where
 nd : (T.map Prod.fst).Nodup
 byt : ∀ e ∈ T, Byt e.1
theorem Kn.del {T : CT} (h : Kn T) (k : List Int) : Kn (cdel T k) := ⟨(List.Sublist.map _ List.filter_sublist).nodup h.nd, fun e he => h.byt e (List.mem_filter.1 he).1⟩
theorem Kn.put {T : CT} (h : Kn T) {k v : List Int} (hk : Byt k) : Kn (cput T k v) := by
 refine ⟨?_, fun e he => ?_⟩
 · unfold cput
   rw [List.map_append, List.nodup_append]
   refine ⟨(h.del k).nd, by simp, fun x hx y hy e => ?_⟩
   simp at hy
   subst hy e
   simp [cdel] at hx
 · rcases List.mem_append.1 he with he | he
   · exact (h.del k).byt e he
   · rw [List.mem_singleton.1 he]
     exact hk
theorem sct_perm (T : CT) : (sct_l19 T).Perm T := List.mergeSort_perm T _
end Go.Proofs.YtfchcdbfalgdlaaGreatDoor
namespace Go.Proofs.YtfchcdbfalgdlaaGreatDoor
set_option linter.unusedVariables false
set_option linter.unusedSimpArgs false
set_option linter.constructorNameAsVariable false
open Go.RowKit Go.Maps Go.Sort Go.WideShapes Go.ChangeShapes
structure Ch.Good (w : World) (c : Ch) : Prop where
 inn : c.In (fun b => b < w.heap.size) w
 kn : c.k.n ≤ 140737488355328
 vn : c.v.n ≤ 140737488355328
theorem Ch.Good.new {w w' : World} {c : Ch} (h : c.Good w) (hN : New w w') : c.Good w' := ⟨Ch.In.szs (h.inn.new hN), h.kn, h.vn⟩
section
variable {H : Type} {enc : TypeId × Value → H} {w : World}
theorem trod_ch {m : Nat} {cs : List Value} {y : DataW H × List MemPlace} (hl : cs.length = 3) (ht : DataW.trod enc Tryz.prog w 0 (fun _ => true) true m 92 cs = some y) (hz : Sz Tryz.prog 92 y.1) :
    ∃ a : Ch, a.cells = cs ∧ a.Good w := by
 match cs, hl with
 | [c0, c1, c2], _ =>
  obtain ⟨_, _, t0, z0⟩ := field_s (j := 0) Tryz.underlying92 ht hz rfl (by kernel_rfl) (by simp)
  obtain ⟨_, _, t1, z1⟩ := field_s (j := 1) Tryz.underlying92 ht hz rfl (by kernel_rfl) (by simp)
  obtain ⟨_, _, t2, _⟩ := field_s (j := 2) Tryz.underlying92 ht hz rfl (by kernel_rfl) (by simp)
  obtain ⟨A, n, c, xs, e0, h2, h3, h4, h5, h6, h7⟩ := trod_ints (k := .u8) Tryz.underlying33 Tryz.underlying5 (by kernel_rfl) t0 z0
  obtain ⟨B, m, d, ys, e1, k2, k3, k4, k5, k6, k7⟩ := trod_ints (k := .u8) Tryz.underlying33 Tryz.underlying5 (by kernel_rfl) t1 z1
  obtain ⟨b, e2, _⟩ := DataW.trod_bool Tryz.underlying4 t2
  simp at e0 e1 e2
  subst e0 e1 e2
  have hb : Tryz.prog.bytesOf 5 = 1 := by kernel_rfl
  rw [hb] at h4 k4
  unfold reachBytes at h4 k4
  refine ⟨⟨⟨A, n, c, xs⟩, ⟨B, m, d, ys⟩, b⟩, rfl, ⟨⟨h6, fun x hx => ?_⟩, ⟨k6, fun x hx => ?_⟩⟩, ?_, ?_⟩
  · have := bounds_u8 (h7 x hx)
    omega
  · have := bounds_u8 (k7 x hx)
    omega
  · show n ≤ _
    omega
  · show m ≤ _
    omega
theorem open_chs {m : Nat} {v : Value} {y : DataW H × List MemPlace} (h : DataW.trod enc Tryz.prog w 0 (fun _ => true) true m 22 [v] = some y) (hz : Sz Tryz.prog 22 y.1) :
    ∃ (A : Option Addr) (n c : Nat) (L : List Ch), v = .slice A n c ∧ n ≤ maxLen ∧ L.length = n ∧ Rd (fun b => b < w.heap.size) w 3 A n (L.flatMap Ch.cells) ∧ ∀ a ∈ L, a.Good w := by
 obtain ⟨A, n, c, L, h1, h2, h3, h4, h5, h6, h7, -⟩ := trod_slk (k := 3) Tryz.underlying22 Ch.cells (by kernel_rfl) (by omega) (fun a => a.Good w) (fun cs m y hl ht hz => trod_ch hl ht hz) h hz
 exact ⟨A, n, c, L, h1, by omega, h5, h6, h7⟩
structure Sl where
 A : Option Addr
 n : Nat
 c : Nat
 L : List Ch
structure Sl.Good (w : World) (x : Sl) : Prop where
 nn : x.n ≤ maxLen
 tb : RTb w x.A x.n x.L
 gd : ∀ a ∈ x.L, a.Good w
theorem Sl.Good.new {w w' : World} {c : Sl} (h : c.Good w) (hN : New w w') : c.Good w' := ⟨h.nn, h.tb.new hN, fun a ha => (h.gd a ha).new hN⟩
def Sl.cells (x : Sl) : List Value := [.slice x.A x.n x.c]
end
def chSum (L : List Ch) : Nat := (L.map fun c => c.k.n + c.v.n).sum
theorem chSum_take {L : List Ch} {k : Nat} (h : k < L.length) : chSum (L.take (k + 1)) = chSum (L.take k) + (L[k].k.n + L[k].v.n) := by
 unfold chSum
 rw [List.take_succ_eq_append_getElem h, List.map_append, List.sum_append]
 simp only [List.map_cons, List.map_nil, List.sum_cons, List.sum_nil, Nat.add_zero]
theorem chSum_le {L : List Ch} (h : ∀ c ∈ L, c.k.n ≤ 140737488355328 ∧ c.v.n ≤ 140737488355328) (k : Nat) (hk : k ≤ L.length) : chSum (L.take k) ≤ k * 281474976710656 := by
 induction k with
 | zero => simp [chSum]
 | succ k ih =>
  rw [chSum_take (by omega)]
  have := h L[k] (List.getElem_mem _)
  have := ih (by omega)
  omega
def LongSays_l19 (L : List Ch) (e : Ending) : Prop := ∃ b, e = .returned (.bool b) ∧ (b = false → L.length ≤ 700 ∧ chSum L ≤ 20000)
set_option maxHeartbeats 2000000 in
set_option maxRecDepth 100000 in
theorem long_any (A : Option Addr) (n c : Nat) (L : List Ch) (w : World) (h : RTb w A n L) (hn : n ≤ maxLen) (hb : ∀ c ∈ L, c.k.n ≤ 140737488355328 ∧ c.v.n ≤ 140737488355328) :
    Calls Tryz.prog 8 #[.slice A n c] w fun e w' => LongSays_l19 L e ∧ New w w' := by
 have H := Lib.hid h
 have HB := Lib.hid hb
 unfold maxLen at hn
 clear h hb
 by_cases hbig : n ≤ 700
 · go_enter Tryz.func8, Tryz.ntmps8
   go_wp2_with fail
   go_loopw [3, 8] (fun s i wr => ∃ (j : Nat), j ≤ n ∧ i = .int .i64 j ∧ s = .int .i64 (chSum (L.take j)) ∧ Hid (New w wr)) (fun s i _ => n - (intOf i).toNat)
   case atStart => exact ⟨0, Nat.zero_le _, rfl, by simp [chSum], Lib.hid (New.refl w)⟩
   case round =>
    obtain ⟨j, hj, rfl, rfl, HN⟩ := hrel
    have hle := chSum_le HB.out j (by rw [H.out.len]; exact hj)
    by_cases hlt : j < n
    · as_aux_lemma =>
      obtain ⟨g, o, hl, rfl, -, -, hrg⟩ := rd_row (f := Ch.cells) (L := L) (fun _ => rfl) (by omega) (HN.out.rd H.out.rd) hlt
      have c0 : wr.cell? ⟨g, o + j * 3, none⟩ = some (.slice L[j].k.A L[j].k.n L[j].k.c) := hrg 0 _ rfl
      have c1 : wr.cell? ⟨g, o + j * 3 + 1, none⟩ = some (.slice L[j].v.A L[j].v.n L[j].v.c) := hrg 1 _ rfl
      have c2 : wr.cell? ⟨g, o + j * 3 + 2, none⟩ = some (.bool L[j].d) := hrg 2 _ rfl
      have hbd := HB.out L[j] (List.getElem_mem _)
      have hst := chSum_take hl
      generalize L[j] = x at c0 c1 c2 hbd hst
      generalize chSum (L.take j) = s at hst hle ⊢
      obtain ⟨⟨kA, kn, kc, ks⟩, ⟨vA, vn, vc, vs⟩, d⟩ := x
      dsimp only at c0 c1 c2 hbd hst
      have HST := Lib.hid hst
      obtain ⟨hb1, hb2⟩ := hbd
      have hs : s ≤ 197032483697459200 := by omega
      have hj0 : (0 : Int) ≤ (j : Int) := by omega
      have hjn : (j : Int) < (n : Int) := by omega
      have HN1 := fun (o : Obj) => Lib.hid (New.al HN.out o)
      clear hrg hl hst hle
      go_wp2_with fail
      go_roundw
      case rel =>
       refine ⟨j + 1, by omega, by go_num, ?_, HN1 _⟩
       rw [HST.out]
       go_num
      case measure => simp [intOf]; omega
    · as_aux_lemma =>
      obtain rfl : j = n := by omega
      have ht : L.take j = L := by rw [← H.out.len, List.take_length]
      rw [ht] at hle ⊢
      have HL : Hid (L.length = j) := Lib.hid H.out.len
      obtain ⟨s, hs⟩ : ∃ s, s = chSum L := ⟨_, rfl⟩
      rw [← hs] at hle ⊢
      have HS := Lib.hid hs
      clear hs ht
      have hs7 : s ≤ 197032483697459200 := by omega
      go_wp2_with fail
      all_goals
       go_ret
       refine ⟨⟨_, rfl, fun h => ?_⟩, HN.out⟩
       first
        | (cases h; done)
        | (rw [HL.out, ← HS.out]
           exact ⟨hbig, by omega⟩)
 · have hn7 : 700 < n := by omega
   clear hbig
   go_enter Tryz.func8, Tryz.ntmps8
   go_wp2_with fail
   go_loopw [3, 8] (fun s i wr => ∃ (j : Nat) (v : Int), j ≤ n ∧ i = .int .i64 j ∧ s = .int .i64 v ∧ Hid (New w wr)) (fun s i _ => n - (intOf i).toNat)
   case atStart => exact ⟨0, 0, Nat.zero_le _, rfl, rfl, Lib.hid (New.refl w)⟩
   case round =>
    obtain ⟨j, v, hj, rfl, rfl, HN⟩ := hrel
    by_cases hlt : j < n
    · as_aux_lemma =>
      obtain ⟨g, o, hl, rfl, -, -, hrg⟩ := rd_row (f := Ch.cells) (L := L) (fun _ => rfl) (by omega) (HN.out.rd H.out.rd) hlt
      have c0 : wr.cell? ⟨g, o + j * 3, none⟩ = some (.slice L[j].k.A L[j].k.n L[j].k.c) := hrg 0 _ rfl
      have c1 : wr.cell? ⟨g, o + j * 3 + 1, none⟩ = some (.slice L[j].v.A L[j].v.n L[j].v.c) := hrg 1 _ rfl
      have c2 : wr.cell? ⟨g, o + j * 3 + 2, none⟩ = some (.bool L[j].d) := hrg 2 _ rfl
      have hbd := HB.out L[j] (List.getElem_mem _)
      generalize L[j] = x at c0 c1 c2 hbd
      obtain ⟨⟨kA, kn, kc, ks⟩, ⟨vA, vn, vc, vs⟩, d⟩ := x
      dsimp only at c0 c1 c2 hbd
      obtain ⟨hb1, hb2⟩ := hbd
      have hj0 : (0 : Int) ≤ (j : Int) := by omega
      have hjn : (j : Int) < (n : Int) := by omega
      have HN1 := fun (o : Obj) => Lib.hid (New.al HN.out o)
      clear hrg hl
      go_wp2_with fail
      go_roundw
      case rel => exact ⟨j + 1, _, by omega, by go_num, rfl, HN1 _⟩
      case measure => simp [intOf]; omega
    · as_aux_lemma =>
      obtain rfl : j = n := by omega
      by_cases hv : 20000 < v
      · go_wp2_with fail
        go_ret
        exact ⟨⟨true, rfl, fun h => by cases h⟩, HN.out⟩
      · go_wp2_with fail
        go_ret
        exact ⟨⟨decide (700 < (j : Int)), rfl, fun h => by have := of_decide_eq_false h; omega⟩, HN.out⟩
end Go.Proofs.YtfchcdbfalgdlaaGreatDoor
namespace Go.Proofs.YtfchcdbfalgdlaaGreatDoor
set_option linter.unusedVariables false
set_option linter.unusedSimpArgs false
set_option linter.constructorNameAsVariable false
open Go.RowKit Go.Maps Go.Sort
def chB (c : Ch) : List Int := [if !c.d then 1 else 0] ++ beL 2 c.k.n ++ c.k.xs ++ (if c.d then [] else beL 2 c.v.n ++ c.v.xs)
def putB (L : List Ch) : List Int := beL 2 L.length ++ L.flatMap chB
theorem chB_len {c : Ch} (hk : c.k.xs.length = c.k.n) (hv : c.v.xs.length = c.v.n) : (chB c).length ≤ 5 + c.k.n + c.v.n := by
 unfold chB
 simp only [List.length_append, List.length_singleton, beL_len, hk]
 split
 · simp; omega
 · simp [beL_len, hv]; omega
theorem putB_take {L : List Ch} {k : Nat} (h : k < L.length) : (L.take (k + 1)).flatMap chB = (L.take k).flatMap chB ++ chB L[k] := by
 rw [List.take_succ_eq_append_getElem h, List.flatMap_append]
 simp
theorem flat_len {L : List Ch} (h : ∀ c ∈ L, (chB c).length ≤ 40000) (j : Nat) (hj : j ≤ L.length) : ((L.take j).flatMap chB).length ≤ j * 40000 := by
 induction j with
 | zero => simp
 | succ j ih =>
  rw [putB_take (by omega), List.length_append]
  have := ih (by omega)
  have := h L[j] (List.getElem_mem _)
  omega
theorem put_bad (A : Option Addr) (n c : Nat) (L : List Ch) (w : World) (h : RTb w A n L) (hn : n ≤ 100000000) (hb : ∀ c ∈ L, c.k.n ≤ maxLen ∧ c.v.n ≤ maxLen) (hbad : chsOk L = false) :
    Calls Tryz.prog 53 #[.slice A n c] w fun e w' => e = .returned (.tuple #[.slice none 0 0, .iface 38 (.int .i64 2)]) ∧ New w w' := by
 have HC := Lib.hid (rights_any A n c L w h.rd h.len hn hb)
 rw [hbad] at HC
 clear h hn hb hbad
 go_enter Tryz.func53, Tryz.ntmps53
 go_wp2_with fail
 refine HC.out.mono ?_
 rintro e w1 ⟨rfl, hN1⟩
 have HN1 := Lib.hid hN1
 clear hN1 HC
 go_wp2_with fail
 go_ret2
 exact ⟨rfl, HN1.out⟩
def PutI (w : World) (g j n : Nat) (L : List Ch) (wr : World) : Prop := New w wr ∧ w.heap.size ≤ g ∧ WrIn wr g g (beL 2 n ++ (L.take j).flatMap chB)
def BoxS (b : Nat) (k v d : Value) (w : World) : Prop := w.cell? ⟨b, 0, none⟩ = some k ∧ w.cell? ⟨b, 1, none⟩ = some v ∧ w.cell? ⟨b, 2, none⟩ = some d
theorem BoxS.of {W : World} {b : Nat} {k v d : Value} (h : Blk W b 92 #[k, v, d]) : BoxS b k v d W := ⟨h.cell 0, h.cell 1, h.cell 2⟩
set_option maxHeartbeats 8000000 in
set_option maxRecDepth 100000 in
theorem put_any (A : Option Addr) (n c : Nat) (L : List Ch) (w : World) (h : RTb w A n L) (hok : chsOk L = true) :
    Calls Tryz.prog 53 #[.slice A n c] w fun e w' => (∃ A' c' base, e = .returned (.tuple #[.slice A' (putB L).length c', .nilIface]) ∧ w.heap.size ≤ base ∧ w'.ownsRow base 5 1 (.slice A' (putB L).length c') (putB L).length (u8s (putB L))) ∧ New w w' := by
 obtain ⟨hl1, hl2, hch⟩ := chsOk_spec hok
 have hn6 : n ≤ 600 := by have := h.len; omega
 have HC := Lib.hid (rights_any A n c L w h.rd h.len (by omega) (fun c hc => by have := hch c hc; unfold maxLen; omega))
 rw [hok] at HC
 have hcl : ∀ c ∈ L, (chB c).length ≤ 40000 := fun c hc => by
  have h1 := chB_len (h.el c hc).k.len (h.el c hc).v.len
  have := hch c hc
  omega
 have HCL := Lib.hid hcl
 have H := Lib.hid h
 have HCH := Lib.hid hch
 clear h hok hl1 hl2 hch hcl
 go_enter Tryz.func53, Tryz.ntmps53
 go_wp2_with fail
 refine HC.out.mono ?_
 rintro e w1 ⟨rfl, hN1⟩
 have HN1 := Lib.hid hN1
 clear hN1 HC
 go_upto_region 4 with fail
 obtain ⟨w2, hw2⟩ : ∃ w2 : World, w2 = w1.alloc (.cells #[.nilIface, .slice none 0 0] 168) := ⟨_, rfl⟩
 obtain ⟨g, hg⟩ : ∃ g, g = w1.heap.size := ⟨_, rfl⟩
 have HN2 : Hid (New w w2) := Lib.hid (by rw [hw2]; exact New.al HN1.out _)
 have HW2 : Hid (WrIn w2 g g []) := Lib.hid ⟨⟨none, 0, by rw [hw2, hg]; exact Blk.new _ _ _, World.ownsRow_nil _ _ _ _⟩, Nat.le_refl _, fun x hx => nomatch hx⟩
 have HZ : Hid (w.heap.size ≤ g) := Lib.hid (by rw [hg]; exact HN1.out.size)
 rw [← hw2, ← hg]
 clear hw2 hg HN1
 go_wp2_with fail
 refine (wnum_any HW2.out n 2 (by omega) (by omega) (by simp)).mono ?_
 rintro e w3 ⟨rfl, hW3, hF3⟩
 have HI : Hid (PutI w g 0 n L w3) := Lib.hid ⟨hF3.toNew HN2.out HZ.out (Nat.le_refl _), HZ.out, by simpa using hW3⟩
 clear hW3 hF3 HW2 HN2
 go_wp2_with fail
 go_loopw [20] (fun i wr => ∃ (j : Nat), j ≤ n ∧ i = .int .i64 j ∧ Hid (PutI w g j n L wr)) (fun i _ => n - (intOf i).toNat)
 case atStart => exact ⟨0, Nat.zero_le _, rfl, HI⟩
 case round =>
  obtain ⟨j, hj, rfl, HR⟩ := hrel
  clear HI
  have hlen : (beL 2 n ++ (L.take j).flatMap chB).length ≤ 100000000 := by
   rw [List.length_append, beL_len]
   have := flat_len HCL.out j (by rw [H.out.len]; exact hj)
   omega
  have HLEN := Lib.hid hlen
  clear hlen
  by_cases hlt : j < n
  · as_aux_lemma =>
    obtain ⟨gA, o, hl, rfl, -, -, hrg⟩ := rd_row (f := Ch.cells) (L := L) (fun _ => rfl) (by omega) (HR.out.1.rd H.out.rd) hlt
    have c0 : wr.cell? ⟨gA, o + j * 3, none⟩ = some (.slice L[j].k.A L[j].k.n L[j].k.c) := hrg 0 _ rfl
    have c1 : wr.cell? ⟨gA, o + j * 3 + 1, none⟩ = some (.slice L[j].v.A L[j].v.n L[j].v.c) := hrg 1 _ rfl
    have c2 : wr.cell? ⟨gA, o + j * 3 + 2, none⟩ = some (.bool L[j].d) := hrg 2 _ rfl
    have hin := H.out.el L[j] (List.getElem_mem _)
    have hch := HCH.out L[j] (List.getElem_mem _)
    have hst := putB_take hl
    generalize L[j] = x at c0 c1 c2 hin hch hst
    obtain ⟨⟨kA, kn, kc, ks⟩, ⟨vA, vn, vc, vs⟩, d⟩ := x
    dsimp only at c0 c1 c2 hch
    have HIN := Lib.hid hin
    have HST := Lib.hid hst
    have hj0 : (0 : Int) ≤ (j : Int) := by omega
    have hjn : (j : Int) < (n : Int) := by omega
    clear hrg hl hin hst
    go_upto_region 8 with fail
    obtain ⟨w4, hw4⟩ : ∃ w4 : World, w4 = wr.alloc (.cells #[.slice kA kn kc, .slice vA vn vc, .bool d] 92) := ⟨_, rfl⟩
    obtain ⟨b6, hb6⟩ : ∃ b6, b6 = wr.heap.size := ⟨_, rfl⟩
    have HN4 : Hid (New wr w4) := Lib.hid (by rw [hw4]; exact New.al (New.refl _) _)
    have HB4 : Hid (Blk w4 b6 92 #[.slice kA kn kc, .slice vA vn vc, .bool d]) := Lib.hid (by rw [hw4, hb6]; exact Blk.new _ _ _)
    have HW4 := Lib.hid (HR.out.2.2.new HN4.out)
    have hgb : b6 ≠ g := by have := HR.out.2.2.lt; omega
    rw [← hw4, ← hb6]
    clear hw4 hb6 c0 c1 c2
    obtain ⟨xs, hxs⟩ : ∃ xs, xs = beL 2 n ++ (L.take j).flatMap chB := ⟨_, rfl⟩
    rw [← hxs] at HW4 HLEN
    have HXS := Lib.hid hxs
    clear hxs
    have hS0 : BoxS b6 (.slice kA kn kc) (.slice vA vn vc) (.bool d) w4.drew := BoxS.of HB4.out
    refine wp_region_mixH (BoxS b6 (.slice kA kn kc) (.slice vA vn vc) (.bool d)) [(true, 0), (true, 1), (true, 2), (true, 3), (true, 5), (true, 6), (false, 4), (false, 7)] (by kernel_rfl) (by kernel_rfl) hS0 (fun hne => ?_)
    have q0 : ∀ p : HW (BoxS b6 (.slice kA kn kc) (.slice vA vn vc) (.bool d)), p.w.cell? ⟨b6, 0, none⟩ = some (.slice kA kn kc) := fun p => p.h.1
    have q2 : ∀ p : HW (BoxS b6 (.slice kA kn kc) (.slice vA vn vc) (.bool d)), p.w.cell? ⟨b6, 2, none⟩ = some (.bool d) := fun p => p.h.2.2
    iterate 6 (refine mix_take (o := ⟨_, _, _, _, _, _⟩) rfl (fun K hK => ?_); go_simp; refine hK _ ?_; clear hK K)
    clear q0 q2 hne
    refine mix_act (o := ⟨_, _, _, _, _, _⟩) rfl (fun K hK => ?_) (.inl rfl)
    go_simp
    refine (wflag_any (HW4.out.new (New.dr (New.refl _))) (!d) (by have := HLEN.out; omega)).mono ?_
    rintro e w5 ⟨rfl, hW5, hF5⟩
    have HF5 : Hid (FW g g w4 w5) := Lib.hid ((FW.new (New.dr (New.refl _))).tr hF5)
    have HW5 := Lib.hid hW5
    have HB5 : Hid (Blk w5 b6 92 #[.slice kA kn kc, .slice vA vn vc, .bool d]) := Lib.hid (HF5.out.blk HB4.out (by decide) hgb)
    clear hW5 hF5
    refine hK.out _ _ (fun _ => BoxS.of HB5.out) ?_
    clear hK K
    have HN5 : Hid (New w w5) := Lib.hid (HF5.out.toNew (HR.out.1.tr HN4.out) HR.out.2.1 (Nat.le_refl _))
    refine mix_act (o := ⟨_, _, _, _, _, _⟩) rfl (fun K hK => ?_) (.inl rfl)
    go_simp
    refine (wbytes_any HW5.out kA kn kc ks (HN5.out.rd HIN.out.k.rd) HIN.out.k.byt (by omega) (by rw [List.length_append, List.length_singleton]; have := HLEN.out; omega) (fun k hk => ⟨by have := HR.out.2.1; omega, .inl (by have := HR.out.2.1; omega)⟩)).mono ?_
    rintro e w6 ⟨rfl, hW6, hF6⟩
    have HF6 : Hid (FW g g w4 w6) := Lib.hid (HF5.out.tr hF6)
    have HW6 := Lib.hid hW6
    have HB6 : Hid (Blk w6 b6 92 #[.slice kA kn kc, .slice vA vn vc, .bool d]) := Lib.hid (hF6.blk HB5.out (by decide) hgb)
    have HN6 : Hid (New w w6) := Lib.hid (hF6.toNew HN5.out HR.out.2.1 (Nat.le_refl _))
    clear hW6 hF6
    refine hK.out _ _ (fun _ => BoxS.of HB6.out) ?_
    clear hK K
    refine mix_done ?_
    have e1 : w6.cell? ⟨b6, 1, none⟩ = some (.slice vA vn vc) := HB6.out.cell 1
    have e2 : w6.cell? ⟨b6, 2, none⟩ = some (.bool d) := HB6.out.cell 2
    cases d
    · go_wp2_with fail
      refine (wbytes_any HW6.out vA vn vc vs (HN6.out.rd HIN.out.v.rd) HIN.out.v.byt (by omega) (by simp only [List.length_append, List.length_singleton, beL_len]; have := HLEN.out; have := HIN.out.k.len; dsimp only at this; omega) (fun k hk => ⟨by have := HR.out.2.1; omega, .inl (by have := HR.out.2.1; omega)⟩)).mono ?_
      rintro e w7 ⟨rfl, hW7, hF7⟩
      have HW7 := Lib.hid hW7
      have HN7 : Hid (New w w7) := Lib.hid (hF7.toNew HN6.out HR.out.2.1 (Nat.le_refl _))
      clear hW7 hF7 e1 e2
      go_wp2_with fail
      go_roundw
      case rel =>
       refine ⟨j + 1, by omega, by go_num, Lib.hid ⟨HN7.out, HR.out.2.1, ?_⟩⟩
       rw [HST.out]
       have := HW7.out
       rw [HXS.out] at this
       simpa [chB] using this
      case measure => simp [intOf]; omega
    · go_wp2_with fail
      go_roundw
      case rel =>
       refine ⟨j + 1, by omega, by go_num, Lib.hid ⟨HN6.out, HR.out.2.1, ?_⟩⟩
       rw [HST.out]
       have := HW6.out
       rw [HXS.out] at this
       simpa [chB] using this
      case measure => simp [intOf]; omega
  · as_aux_lemma =>
    obtain rfl : j = n := by omega
    have hp : beL 2 j ++ (L.take j).flatMap chB = putB L := by
     unfold putB
     rw [← H.out.len, List.take_length]
    have hW := HR.out.2.2
    have hlen := HLEN.out
    rw [hp] at hW hlen
    have HD := Lib.hid (wdone_any hW (by omega))
    clear hW hp hlen
    go_wp2_with fail
    refine HD.out.mono ?_
    rintro e w3 ⟨⟨A3, c3, rfl, hO3⟩, hN3⟩
    have HO3 := Lib.hid hO3
    have HN3 := Lib.hid hN3
    clear hO3 hN3 HD
    generalize hpl : (putB L).length = pl at *
    go_wp2_with fail
    go_ret2
    rw [hpl]
    exact ⟨⟨A3, c3, wr.heap.size, rfl, HR.out.1.size, HO3.out⟩, HR.out.1.tr HN3.out⟩
end Go.Proofs.YtfchcdbfalgdlaaGreatDoor
namespace Go.Proofs.YtfchcdbfalgdlaaGreatDoor
set_option linter.unusedVariables false
set_option linter.unusedSimpArgs false
set_option linter.constructorNameAsVariable false
open Go.RowKit Go.Maps
set_option maxHeartbeats 2000000 in
theorem rflag_any {g : Nat} {s : Rs} {w : World} (h : RdIn w g s) :
    Calls Tryz.prog 98 #[.pointer (some ⟨g, 0, none⟩)] w fun x w' => x = .returned (.bool s.flag.1) ∧ RdIn w' g s.flag.2 ∧ Fr (fun k => k = g) w w' := by
 have HL := Lib.hid (rleft_any h)
 have HFL := Lib.hid (rfail_any h 2 (by omega))
 have HN := Lib.hid (rnum_any h 1 (by omega))
 by_cases hl1 : s.left < 1
 · have hx : s.flag = (false, s.bad 2) := by unfold Rs.flag; rw [if_pos (.inl hl1)]
   rw [hx]
   generalize s.left = l at *
   clear hx h
   have hd : decide ((l : Int) < 1) = true := decide_eq_true (by omega)
   go_enter Tryz.func98, Tryz.ntmps98
   go_wp2_with fail
   refine HL.out.mono ?_
   rintro e w1 ⟨rfl, rfl⟩
   go_wp2_with fail
   refine HFL.out.mono ?_
   rintro e w2 ⟨rfl, hR2, hF2⟩
   have HR2 := Lib.hid hR2
   have HF2 := Lib.hid hF2
   clear hR2 hF2
   go_wp2_with fail
   go_ret
   exact ⟨rfl, HR2.out, HF2.out⟩
 · obtain ⟨gA, o, c, hb, hq, hle⟩ := h.left1 (by omega)
   have hxl : 0 < s.xs.length := by omega
   have h0 : s.xs[0]? = some s.xs[0] := List.getElem?_eq_getElem hxl
   have hby := h.byt s.xs[0] (List.getElem_mem _)
   have hhd : s.xs.headD 0 = s.xs[0] := by
    obtain ⟨xs, e⟩ := s
    match xs, hxl with
    | a :: r, _ => rfl
   have k0 : w.cell? ⟨gA, o, none⟩ = some (.int .u8 s.xs[0]) := hq 0 _ h0
   have c1 : w.cell? ⟨g, 1, none⟩ = some (.slice (some ⟨gA, o, none⟩) s.xs.length c) := hb.cell 1
   have hd : decide ((s.left : Int) < 1) = false := decide_eq_false (by omega)
   have hf : s.flag = if (1 : Int) < s.xs[0] then (false, s.bad 2) else (decide ((s.num 1).1 = 1), (s.num 1).2) := by
    unfold Rs.flag
    rw [hhd]
    by_cases h1 : (1 : Int) < s.xs[0]
    · rw [if_pos (.inr h1), if_pos h1]
    · rw [if_neg (by rintro (h | h) <;> omega), if_neg h1]
   rw [hf]
   rw [hle] at HL hd
   generalize s.xs[0] = x at *
   generalize s.xs.length = l at *
   clear hq hb hhd hf h0 hle hl1 h
   by_cases h1 : 1 < x
   · have hd1 : decide (1 < x) = true := decide_eq_true h1
     rw [if_pos h1]
     go_enter Tryz.func98, Tryz.ntmps98
     go_wp2_with fail
     refine HL.out.mono ?_
     rintro e w1 ⟨rfl, rfl⟩
     go_wp2_with fail
     refine HFL.out.mono ?_
     rintro e w2 ⟨rfl, hR2, hF2⟩
     have HR2 := Lib.hid hR2
     have HF2 := Lib.hid hF2
     clear hR2 hF2
     go_wp2_with fail
     go_ret
     exact ⟨rfl, HR2.out, HF2.out⟩
   · have hd1 : decide (1 < x) = false := decide_eq_false h1
     rw [if_neg h1]
     generalize (s.num 1).1 = v at *
     go_enter Tryz.func98, Tryz.ntmps98
     go_wp2_with fail
     refine HL.out.mono ?_
     rintro e w1 ⟨rfl, rfl⟩
     go_wp2_with fail
     refine HN.out.mono ?_
     rintro e w2 ⟨rfl, hR2, hF2⟩
     have HR2 := Lib.hid hR2
     have HF2 := Lib.hid hF2
     clear hR2 hF2
     go_wp2_with fail
     go_ret
     refine ⟨?_, HR2.out, HF2.out⟩
     congr 2
     by_cases hv : v = 1
     · subst hv; rfl
     · rw [decide_eq_false hv]
       simp
       omega
end Go.Proofs.YtfchcdbfalgdlaaGreatDoor
namespace Go.Proofs.YtfchcdbfalgdlaaGreatDoor
set_option linter.unusedVariables false
set_option linter.unusedSimpArgs false
set_option linter.constructorNameAsVariable false
open Go.RowKit Go.Maps Go.Sort
structure PC where
 k : List Int
 v : List Int
 d : Bool
def pcOf (c : Ch) : PC := ⟨c.k.xs, c.v.xs, c.d⟩
def prsStep (s : Rs) : PC × Rs :=
 if s.flag.1 then (⟨(s.flag.2.bytes 16).1, ((s.flag.2.bytes 16).2.bytes 16384).1, false⟩, ((s.flag.2.bytes 16).2.bytes 16384).2)
 else (⟨(s.flag.2.bytes 16).1, [], true⟩, (s.flag.2.bytes 16).2)
def prs : Nat → Rs → List PC → List PC × Rs
 | 0, s, out => (out, s)
 | n + 1, s, out => if (prsStep s).1.k = [] then (out, (prsStep s).2.bad 2) else prs n (prsStep s).2 (out ++ [(prsStep s).1])
def pcOk (c : PC) : Bool := decide (1 ≤ c.k.length) && decide (c.k.length ≤ 16) && decide (c.v.length ≤ 16384) && !(c.d && decide (0 < c.v.length))
def pcsOk (L : List PC) : Bool := decide (1 ≤ L.length) && decide (L.length ≤ 600) && L.all pcOk
def parseB (xs : List Int) : Option (List PC) :=
 if (prs ((⟨xs, 0⟩ : Rs).num 2).1 ((⟨xs, 0⟩ : Rs).num 2).2 []).2.fin = 0 ∧ pcsOk (prs ((⟨xs, 0⟩ : Rs).num 2).1 ((⟨xs, 0⟩ : Rs).num 2).2 []).1 = true then some (prs ((⟨xs, 0⟩ : Rs).num 2).1 ((⟨xs, 0⟩ : Rs).num 2).2 []).1 else none
structure Ch.InT (w : World) (c : Ch) : Prop where
 k : RdT 5 w 1 c.k.A c.k.n (u8s c.k.xs)
 kb : Byt c.k.xs
 v : RdT 5 w 1 c.v.A c.v.n (u8s c.v.xs)
 vb : Byt c.v.xs
theorem Ch.InT.fr {S : Nat → Prop} {w w' : World} {c : Ch} (h : c.InT w) (hF : Fr S w w') (hS : ∀ k, S k → ¬ IsT 5 w k) : c.InT w' := ⟨h.k.fr hF hS, h.kb, h.v.fr hF hS, h.vb⟩
theorem Ch.InT.in_ {w : World} {c : Ch} (h : c.InT w) : c.In (fun b => b < w.heap.size) w := ⟨⟨rd_szs h.k, h.kb⟩, ⟨rd_szs h.v, h.vb⟩⟩
theorem Ch.InT.pc {w : World} {c : Ch} (h : c.InT w) : c.k.xs.length = c.k.n ∧ c.v.xs.length = c.v.n := ⟨h.in_.k.len, h.in_.v.len⟩
theorem pcOk_of {w : World} {c : Ch} (h : c.InT w) : pcOk (pcOf c) = chOk c := by
 obtain ⟨h1, h2⟩ := h.pc
 unfold pcOk chOk pcOf
 simp only [h1, h2]
theorem pcsOk_of {w : World} {L : List Ch} (h : ∀ c ∈ L, c.InT w) : pcsOk (L.map pcOf) = chsOk L := by
 unfold pcsOk chsOk
 have hlen : (L.map pcOf).length = L.length := by simp
 have e : (L.map pcOf).all pcOk = L.all chOk := by
  clear hlen
  induction L with
  | nil => rfl
  | cons c L ih => rw [List.map_cons, List.all_cons, List.all_cons, pcOk_of (h c (List.mem_cons_self ..)), ih fun c hc => h c (List.mem_cons_of_mem _ hc)]
 rw [hlen, e]
theorem bytes_le (s : Rs) (most : Nat) : (s.bytes most).1.length ≤ most := by
 unfold Rs.bytes
 split
 · simp
 · split
   · simp
   · next h =>
     have := raw_le (s.raw 2).2 (valL (s.xs.take 2))
     omega
theorem raw_byt2 {s : Rs} (h : Byt s.xs) (n : Nat) : Byt (s.raw n).2.xs := by
 unfold Rs.raw
 split
 · unfold Rs.bad
   split <;> exact h
 · exact fun x hx => h x (List.mem_of_mem_drop hx)
theorem bytes_byt {s : Rs} (h : Byt s.xs) (most : Nat) : Byt (s.bytes most).1 := by
 unfold Rs.bytes
 split
 · intro x hx; cases hx
 · split
   · intro x hx; cases hx
   · exact raw_byt (raw_byt2 h 2) _
structure PrI (w : World) (g : Nat) (s : Rs) (A : Option Addr) (m c : Nat) (L : List Ch) (wr : World) : Prop where
 new : New w wr
 gz : w.heap.size ≤ g
 rd : RdIn wr g s
 own : wr.ownsRow w.heap.size 92 3 (.slice A m c) m (L.flatMap Ch.cells)
 el : ∀ c ∈ L, c.InT wr
 sz : ∀ c ∈ L, c.k.n ≤ 16 ∧ c.v.n ≤ 16384
theorem elC : ElemOf Tryz.prog 22 92 3 56 := ElemOf.mk' (z := .agg ch0.cells.toArray) Tryz.underlying22 (by kernel_rfl) rfl (by decide)
def ParseSays (w : World) (r : Option (List PC)) (e : Ending) (w' : World) : Prop :=
 (r = none ∧ e = .returned (.tuple #[.slice none 0 0, .iface 38 (.int .i64 2)])) ∨
 (∃ (A : Option Addr) (n c : Nat) (L : List Ch), r = some (L.map pcOf) ∧ e = .returned (.tuple #[.slice A n c, .nilIface]) ∧ RTb w' A n L)
set_option maxHeartbeats 8000000 in
set_option maxRecDepth 100000 in
theorem parse_any {p : Nat → Prop} (A : Option Addr) (n c : Nat) (xs : List Int) (w : World) (hR : Rd p w 1 A n (u8s xs)) (hb : Byt xs) (hn : n ≤ 140737488355328) :
    Calls Tryz.prog 48 #[.slice A n c] w fun e w' => ParseSays w (parseB xs) e w' ∧ New w w' := by
 have HF := Lib.hid (from_any A n c xs w hR hb hn)
 obtain ⟨N, hN⟩ : ∃ N, N = ((⟨xs, 0⟩ : Rs).num 2).1 := ⟨_, rfl⟩
 obtain ⟨s0, hs0⟩ : ∃ s0, s0 = ((⟨xs, 0⟩ : Rs).num 2).2 := ⟨_, rfl⟩
 have hN16 : N < 65536 := by
  rw [hN]
  unfold Rs.num
  have h1 := valL_lt (xs := ((⟨xs, 0⟩ : Rs).raw 2).1) (raw_byt (s := ⟨xs, 0⟩) hb 2)
  have h2 := raw_le (⟨xs, 0⟩ : Rs) 2
  have h3 : 256 ^ ((⟨xs, 0⟩ : Rs).raw 2).1.length ≤ 256 ^ 2 := Nat.pow_le_pow_right (by decide) h2
  exact Nat.lt_of_lt_of_le h1 h3
 obtain ⟨r, hr⟩ : ∃ r, r = prs N s0 [] := ⟨_, rfl⟩
 obtain ⟨q, hq⟩ : ∃ q, q = parseB xs := ⟨_, rfl⟩
 rw [← hq]
 unfold parseB at hq
 rw [← hN, ← hs0, ← hr] at hq
 have HNN := Lib.hid hN
 have HS0 := Lib.hid hs0
 have HRR := Lib.hid hr
 have HQ := Lib.hid hq
 clear hR hb hN hs0 hr hq
 go_enter Tryz.func48, Tryz.ntmps48
 go_wp2_with fail
 refine HF.out.mono ?_
 rintro e w1 ⟨g, rfl, hR1, hN1, hg⟩
 have HR1 := Lib.hid hR1
 have HN1 := Lib.hid hN1
 have HG := Lib.hid hg
 clear hR1 hN1 hg HF
 go_wp2_with fail
 refine (rnum_any HR1.out 2 (by omega)).mono ?_
 rintro e w2 ⟨rfl, hR2, hF2⟩
 rw [← HNN.out]
 rw [← HS0.out] at hR2
 have HI : Hid (PrI w g s0 none 0 0 [] w2) := Lib.hid ⟨HN1.out.fr hF2 (fun k hk => by have := HG.out; omega), HG.out, hR2, World.ownsRow_nil _ _ _ _, (fun c hc => nomatch hc), fun c hc => nomatch hc⟩
 have HP : Hid (r = prs (N - 0) s0 (([] : List Ch).map pcOf)) := Lib.hid HRR.out
 clear hR2 hF2 HR1 HN1
 go_wp2_with fail
 go_loopw [5, 11] (fun o i wr => ∃ (j m : Nat) (s : Rs) (A' : Option Addr) (c' : Nat) (L : List Ch), j ≤ N ∧ m ≤ j ∧ i = .int .u64 j ∧ o = .slice A' m c' ∧ Hid (PrI w g s A' m c' L wr) ∧ Hid (r = prs (N - j) s (L.map pcOf))) (fun o i _ => N - (intOf i).toNat)
 case atStart => exact ⟨0, 0, s0, none, 0, [], Nat.zero_le _, Nat.le_refl _, rfl, rfl, HI, HP⟩
 case round =>
  obtain ⟨j, m, s, A', c', L, hj, hm, rfl, rfl, HJ, HPJ⟩ := hrel
  clear HI HP
  by_cases hlt : j < N
  · skip
    obtain ⟨i0, hNj⟩ : ∃ i0, N - j = i0 + 1 := ⟨N - j - 1, by omega⟩
    obtain rfl : i0 = N - (j + 1) := by omega
    have hj0 : (0 : Int) ≤ (j : Int) := by omega
    have hjn : (j : Int) < (N : Int) := by omega
    cases hb : s.flag.1
    · as_aux_lemma =>
      have HFG := Lib.hid (rflag_any HJ.out.rd)
      rw [hb] at HFG
      obtain ⟨s1, hs1⟩ : ∃ s1, s1 = s.flag.2 := ⟨_, rfl⟩
      rw [← hs1] at HFG
      obtain ⟨key_l19, hkey⟩ : ∃ key_l19, key_l19 = (s1.bytes 16).1 := ⟨_, rfl⟩
      obtain ⟨s2, hs2⟩ : ∃ s2, s2 = (s1.bytes 16).2 := ⟨_, rfl⟩
      obtain ⟨kn, hkn⟩ : ∃ kn, kn = key_l19.length := ⟨_, rfl⟩
      have HSTP : Hid (prsStep s = (⟨key_l19, [], true⟩, s2)) := Lib.hid (by unfold prsStep; rw [hb, if_neg (by decide), ← hs1, ← hs2, ← hkey])
      have HKEY := Lib.hid hkey
      have HS2 := Lib.hid hs2
      have HKN := Lib.hid hkn
      have HK16 : Hid (kn ≤ 16) := Lib.hid (by rw [hkn, hkey]; exact bytes_le s1 16)
      clear hb hs1 hkey hs2 hkn
      go_wp2_with fail
      refine HFG.out.mono ?_
      rintro e w3 ⟨rfl, hR3, hF3⟩
      have HR3 := Lib.hid hR3
      have HF3 := Lib.hid hF3
      clear hR3 hF3
      have hky := rbytes_any HR3.out 16 (by omega)
      rw [← HS2.out, ← HKEY.out, ← HKN.out] at hky
      have HKY := Lib.hid hky
      clear hky
      go_wp2_with fail
      refine HKY.out.mono ?_
      rintro e w4 ⟨⟨kA, kc, rfl, bk, hbk, hO4⟩, hR4, hF4⟩
      have HF4 : Hid (Fr (fun k => k = g) wr w4) := Lib.hid (HF3.out.trans hF4)
      have HKB : Hid (Byt key_l19) := Lib.hid (by rw [HKEY.out]; exact bytes_byt HR3.out.byt 16)
      have hng : ∀ k, k = g → ¬ IsT 5 wr k := fun k hk => by
       subst hk
       obtain ⟨Ar, cr, hbr, _⟩ := HJ.out.rd.st
       exact IsT.not_blk hbr (by decide)
      obtain ⟨w5, hw5⟩ : ∃ w5 : World, w5 = w4.alloc (.cells #[.slice kA kn kc, .slice none 0 0, .bool true] 92) := ⟨_, rfl⟩
      obtain ⟨b6, hb6⟩ : ∃ b6, b6 = w4.heap.size := ⟨_, rfl⟩
      have HN45 : Hid (New w4 w5) := Lib.hid (by rw [hw5]; exact New.al (New.refl _) _)
      have HB5 : Hid (Blk w5 b6 92 #[.slice kA kn kc, .slice none 0 0, .bool true]) := Lib.hid (by rw [hw5, hb6]; exact Blk.new _ _ _)
      have HF5 : Hid (Fr (fun k => k = g) wr w5) := Lib.hid (HF4.out.trans (HN45.out.toFr _))
      have HNG := Lib.hid hng
      have HRT : Hid (RdIn w5 g s2) := Lib.hid (hR4.new HN45.out)
      have HKT : Hid (RdT 5 w5 1 kA kn (u8s key_l19)) := Lib.hid ((RdT.own hO4 rfl).new HN45.out)
      have HNT : Hid (New w w5) := Lib.hid (HJ.out.new.fr HF5.out (fun k hk => by have := HJ.out.gz; omega))
      have HOT : Hid (w5.ownsRow w.heap.size 92 3 (.slice A' m c') m (L.flatMap Ch.cells)) := Lib.hid (own_fr HJ.out.own HF5.out (fun k hk e => by
       obtain ⟨Ar, cr, hbr, _⟩ := HJ.out.rd.st
       subst e
       exact own_ne HJ.out.own hbr (by decide) hk))
      have HLT : Hid (∀ c ∈ L, c.InT w5) := Lib.hid (fun c hc => (HJ.out.el c hc).fr HF5.out HNG.out)
      have hgb : b6 ≠ g := by have := hR4.lt; omega
      clear hO4 hR4 hF4 hng hbk
      go_upto_region 6 with fail
      rw [← hw5, ← hb6]
      clear hw5 hb6
      have HBT := HB5
      have c0 : w5.cell? ⟨b6, 0, none⟩ = some (.slice kA kn kc) := HB5.out.cell 0
      have c2 : w5.cell? ⟨b6, 2, none⟩ = some (.bool true) := HB5.out.cell 2
      by_cases hk0 : kn = 0
      · subst hk0
        have hke : key_l19 = [] := List.eq_nil_of_length_eq_zero HKN.out.symm
        have HST : Hid (q = none) := Lib.hid (by
         have h1 := HPJ.out
         rw [hNj] at h1
         unfold prs at h1
         rw [HSTP.out, if_pos hke] at h1
         rw [HQ.out, h1]
         refine if_neg (fun h => ?_)
         have h2 := h.1
         dsimp only at h2
         revert h2
         unfold Rs.bad Rs.fin
         split <;> simp_all)
        have HFL := Lib.hid (rfail_any HRT.out 2 (by omega))
        have hfin : (s2.bad 2).fin ≠ 0 := by
         unfold Rs.bad Rs.fin
         split <;> simp_all
        have HFIN := Lib.hid hfin
        clear hfin hke HSTP hNj
        go_wp2_with fail
        refine HFL.out.mono ?_
        rintro e w7 ⟨rfl, hR7, hF7⟩
        have HN7 : Hid (New w w7) := Lib.hid (HNT.out.fr hF7 (fun k hk => by have := HJ.out.gz; omega))
        have HE7 := Lib.hid (rend_any hR7)
        clear hR7 hF7
        go_wp2_with fail
        refine HE7.out.mono ?_
        rintro e w8 ⟨rfl, rfl⟩
        rw [errV_pos HFIN.out]
        go_wp2_with fail
        go_ret2
        exact ⟨.inl ⟨HST.out, rfl⟩, HN7.out⟩
      · have hkne : key_l19 ≠ [] := fun e => hk0 (by have := HKN.out; rw [e] at this; simpa using this)
        have hkp : (0 : Int) < (kn : Int) := by omega
        have hkz : ((kn : Int) == 0) = false := by simp; omega
        have HST : Hid (r = prs (N - (j + 1)) s2 ((L ++ [(⟨⟨kA, kn, kc, key_l19⟩, ⟨none, 0, 0, []⟩, true⟩ : Ch)]).map pcOf)) := Lib.hid (by
         have h1 := HPJ.out
         rw [hNj] at h1
         unfold prs at h1
         rw [HSTP.out, if_neg hkne] at h1
         rw [h1, List.map_append]
         rfl)
        have hdk : decide ((0 : Int) = (kn : Int)) = false := decide_eq_false (by omega)
        clear hkne HSTP hNj
        have e0 : w5.cell? ⟨b6, 0, none⟩ = some (.slice kA kn kc) := HBT.out.cell 0
        have e1 : w5.cell? ⟨b6, 1, none⟩ = some (.slice none 0 0) := HBT.out.cell 1
        have e2 : w5.cell? ⟨b6, 2, none⟩ = some (.bool true) := HBT.out.cell 2
        go_wp2_with (first
         | ((with_reducible refine atOpS ⟨some 34, .buildSlice _ _ _, _, _, _, _⟩ ?_); refine wpList_bs1 elC (by decide) rfl (.tmp 33) rfl #[.slice kA kn kc, .slice none 0 0, .bool true] rfl rfl ?_)
         | (at_builtin; refine atOpS ⟨some 35, _, _, _, _, _⟩ ?_; refine stopHere ?_))
        refine ⟨?_⟩
        refine wpList_app (o := ⟨some 35, _, _, _, _, _⟩) elC _ rfl (.tmp 32) (.tmp 34) rfl w.heap.size (.slice A' m c') m (L.flatMap Ch.cells) rfl (New.own (New.al (New.refl _) _) HOT.out) _ 1 1 [.slice kA kn kc, .slice none 0 0, .bool true] rfl (Rd.ofBlk (p := fun _ => True) (Blk.new _ 92 #[.slice kA kn kc, .slice none 0 0, .bool true]) 3 1 rfl trivial) (cells_one ⟨⟨kA, kn, kc, key_l19⟩, ⟨none, 0, 0, []⟩, true⟩) (by unfold maxLen; omega) (by omega) (by have := HNT.out.size; simp; omega) ?_
        intro A8 d8 w8 hO8 hF8 hA8
        have HN8 : Hid (New w w8) := Lib.hid ((New.al HNT.out _).fr hF8 (fun k hk => (own_lt HOT.out k hk).1))
        have hF8t := ((New.al (New.refl w5) (.cells #[.slice kA kn kc, .slice none 0 0, .bool true] 92)).toFr (fun k => (Value.slice A' m c').ownBlock = some k)).trans hF8
        have hnB : ∀ k, (Value.slice A' m c').ownBlock = some k → ¬ IsT 5 w5 k := fun k hk => IsT.not_own HOT.out (by decide) hk
        have HI8 : Hid (PrI w g s2 A8 (m + 1) d8 (L ++ [⟨⟨kA, kn, kc, key_l19⟩, ⟨none, 0, 0, []⟩, true⟩]) w8) := Lib.hid ⟨HN8.out, HJ.out.gz, HRT.out.fr hF8t (fun hk => by
            obtain ⟨Ar, cr, hbr, _⟩ := HRT.out.st
            exact own_ne HOT.out hbr (by decide) hk) hnB, by rw [List.flatMap_append]; simpa [Ch.cells] using hO8, fun c hc => by
            rcases List.mem_append.1 hc with hc | hc
            · exact (HLT.out c hc).fr hF8t hnB
            · rw [List.mem_singleton.1 hc]
              exact Ch.InT.fr (w := w5) (c := ⟨⟨kA, kn, kc, key_l19⟩, ⟨none, 0, 0, []⟩, true⟩) ⟨HKT.out, HKB.out, RdT.nil, fun x hx => nomatch hx⟩ hF8t hnB, fun c hc => by
            rcases List.mem_append.1 hc with hc | hc
            · exact HJ.out.sz c hc
            · rw [List.mem_singleton.1 hc]
              exact ⟨HK16.out, Nat.zero_le _⟩⟩
        clear hO8 hF8 hA8 hF8t hnB
        go_wp2_with fail
        go_roundw
        case rel => exact ⟨j + 1, m + 1, _, A8, d8, _, by omega, by omega, by go_num, rfl, HI8, HST⟩
        case measure => simp [intOf]; omega
    · as_aux_lemma =>
      have HFG := Lib.hid (rflag_any HJ.out.rd)
      rw [hb] at HFG
      obtain ⟨s1, hs1⟩ : ∃ s1, s1 = s.flag.2 := ⟨_, rfl⟩
      rw [← hs1] at HFG
      obtain ⟨key_l19, hkey⟩ : ∃ key_l19, key_l19 = (s1.bytes 16).1 := ⟨_, rfl⟩
      obtain ⟨s2, hs2⟩ : ∃ s2, s2 = (s1.bytes 16).2 := ⟨_, rfl⟩
      obtain ⟨kn, hkn⟩ : ∃ kn, kn = key_l19.length := ⟨_, rfl⟩
      obtain ⟨val, hval⟩ : ∃ val, val = (s2.bytes 16384).1 := ⟨_, rfl⟩
      obtain ⟨s3, hs3⟩ : ∃ s3, s3 = (s2.bytes 16384).2 := ⟨_, rfl⟩
      obtain ⟨vn, hvn⟩ : ∃ vn, vn = val.length := ⟨_, rfl⟩
      have HSTP : Hid (prsStep s = (⟨key_l19, val, false⟩, s3)) := Lib.hid (by unfold prsStep; rw [hb, if_pos rfl, ← hs1, ← hs2, ← hkey, ← hval, ← hs3])
      have HVAL := Lib.hid hval
      have HS3 := Lib.hid hs3
      have HVN := Lib.hid hvn
      clear hval hs3 hvn
      have HKEY := Lib.hid hkey
      have HS2 := Lib.hid hs2
      have HKN := Lib.hid hkn
      have HK16 : Hid (kn ≤ 16) := Lib.hid (by rw [hkn, hkey]; exact bytes_le s1 16)
      clear hb hs1 hkey hs2 hkn
      go_wp2_with fail
      refine HFG.out.mono ?_
      rintro e w3 ⟨rfl, hR3, hF3⟩
      have HR3 := Lib.hid hR3
      have HF3 := Lib.hid hF3
      clear hR3 hF3
      have hky := rbytes_any HR3.out 16 (by omega)
      rw [← HS2.out, ← HKEY.out, ← HKN.out] at hky
      have HKY := Lib.hid hky
      clear hky
      go_wp2_with fail
      refine HKY.out.mono ?_
      rintro e w4 ⟨⟨kA, kc, rfl, bk, hbk, hO4⟩, hR4, hF4⟩
      have HF4 : Hid (Fr (fun k => k = g) wr w4) := Lib.hid (HF3.out.trans hF4)
      have HKB : Hid (Byt key_l19) := Lib.hid (by rw [HKEY.out]; exact bytes_byt HR3.out.byt 16)
      have hng : ∀ k, k = g → ¬ IsT 5 wr k := fun k hk => by
       subst hk
       obtain ⟨Ar, cr, hbr, _⟩ := HJ.out.rd.st
       exact IsT.not_blk hbr (by decide)
      obtain ⟨w5, hw5⟩ : ∃ w5 : World, w5 = w4.alloc (.cells #[.slice kA kn kc, .slice none 0 0, .bool false] 92) := ⟨_, rfl⟩
      obtain ⟨b6, hb6⟩ : ∃ b6, b6 = w4.heap.size := ⟨_, rfl⟩
      have HN45 : Hid (New w4 w5) := Lib.hid (by rw [hw5]; exact New.al (New.refl _) _)
      have HB5 : Hid (Blk w5 b6 92 #[.slice kA kn kc, .slice none 0 0, .bool false]) := Lib.hid (by rw [hw5, hb6]; exact Blk.new _ _ _)
      have HF5 : Hid (Fr (fun k => k = g) wr w5) := Lib.hid (HF4.out.trans (HN45.out.toFr _))
      have HNG := Lib.hid hng
      have HB4S : Hid (b6 = w4.heap.size) := Lib.hid hb6
      have HRT : Hid (RdIn w5 g s2) := Lib.hid (hR4.new HN45.out)
      have HKT : Hid (RdT 5 w5 1 kA kn (u8s key_l19)) := Lib.hid ((RdT.own hO4 rfl).new HN45.out)
      have HNT : Hid (New w w5) := Lib.hid (HJ.out.new.fr HF5.out (fun k hk => by have := HJ.out.gz; omega))
      have HOT : Hid (w5.ownsRow w.heap.size 92 3 (.slice A' m c') m (L.flatMap Ch.cells)) := Lib.hid (own_fr HJ.out.own HF5.out (fun k hk e => by
       obtain ⟨Ar, cr, hbr, _⟩ := HJ.out.rd.st
       subst e
       exact own_ne HJ.out.own hbr (by decide) hk))
      have HLT : Hid (∀ c ∈ L, c.InT w5) := Lib.hid (fun c hc => (HJ.out.el c hc).fr HF5.out HNG.out)
      have hgb : b6 ≠ g := by have := hR4.lt; omega
      clear hO4 hR4 hF4 hng hbk
      go_upto_region 6 with fail
      rw [← hw5, ← hb6]
      clear hw5 hb6
      have c0 : w5.cell? ⟨b6, 0, none⟩ = some (.slice kA kn kc) := HB5.out.cell 0
      have c2 : w5.cell? ⟨b6, 2, none⟩ = some (.bool false) := HB5.out.cell 2
      have hvl := rbytes_any HRT.out 16384 (by omega)
      rw [← HS3.out, ← HVAL.out, ← HVN.out] at hvl
      have HVL := Lib.hid hvl
      clear hvl
      go_wp2_with fail
      refine HVL.out.mono ?_
      rintro e w6 ⟨⟨vA, vc, rfl, bv, hbv, hO6⟩, hR6, hF6⟩
      have HF6 := Lib.hid hF6
      have HB6 : Hid (Blk w6 b6 92 #[.slice kA kn kc, .slice none 0 0, .bool false]) := Lib.hid (HB5.out.fr hF6 hgb)
      have f61 : w6.frozen? ⟨b6, 1, none⟩ = false := HB6.out.frozen 1
      have c61 : w6.cell? ⟨b6, 1, none⟩ = some (.slice none 0 0) := HB6.out.cell 1
      have HVB : Hid (Byt val) := Lib.hid (by rw [HVAL.out]; exact bytes_byt HRT.out.byt 16384)
      have HV16 : Hid (vn ≤ 16384) := Lib.hid (by rw [HVN.out, HVAL.out]; exact bytes_le s2 16384)
      have HR6 := Lib.hid hR6
      have HVT6 : Hid (RdT 5 w6 1 vA vn (u8s val)) := Lib.hid (RdT.own hO6 rfl)
      obtain ⟨w7, hw7⟩ : ∃ w7 : World, w7 = w6.setCell ⟨b6, 1, none⟩ (.slice vA vn vc) := ⟨_, rfl⟩
      have hF67 : Fr (fun k => k = b6) w6 w7 := by rw [hw7]; exact (Fr.refl (fun k => k = b6) w6).setCell (p := ⟨b6, 1, none⟩) (fun _ => rfl) _
      have hnb : ∀ k, k = b6 → ¬ IsT 5 w6 k := fun k hk => by subst hk; exact IsT.not_blk HB6.out (by decide)
      have hng5 : ∀ k, k = g → ¬ IsT 5 w5 k := fun k hk => by
       subst hk
       obtain ⟨Ar, cr, hbr, _⟩ := HRT.out.st
       exact IsT.not_blk hbr (by decide)
      have hob5 : ∀ k, (Value.slice A' m c').ownBlock = some k → ¬ k = b6 := fun k hk e => by
       have h1 := (own_lt HJ.out.own k hk).2
       have h2 := HF4.out.size
       have h3 := HB4S.out
       omega
      have HB7 : Hid (Blk w7 b6 92 #[.slice kA kn kc, .slice vA vn vc, .bool false]) := Lib.hid (by
       have := HB6.out.set 1 (.slice vA vn vc)
       rw [hw7]
       simpa using this)
      have HRT7 : Hid (RdIn w7 g s3) := Lib.hid (HR6.out.fr hF67 (fun e => hgb e.symm) hnb)
      have HKT7 : Hid (RdT 5 w7 1 kA kn (u8s key_l19)) := Lib.hid ((HKT.out.fr HF6.out hng5).fr hF67 hnb)
      have HVT : Hid (RdT 5 w7 1 vA vn (u8s val)) := Lib.hid (HVT6.out.fr hF67 hnb)
      have HNT7 : Hid (New w w7) := Lib.hid ((HNT.out.fr HF6.out (fun k hk => by have := HJ.out.gz; omega)).fr hF67 (fun k hk => by have := HB4S.out; have := HF4.out.size; have := HJ.out.new.size; omega))
      have HOT7 : Hid (w7.ownsRow w.heap.size 92 3 (.slice A' m c') m (L.flatMap Ch.cells)) := Lib.hid (own_fr (own_fr HOT.out HF6.out (fun k hk e => by
       obtain ⟨Ar, cr, hbr, _⟩ := HRT.out.st
       subst e
       exact own_ne HOT.out hbr (by decide) hk)) hF67 hob5)
      have HLT7 : Hid (∀ c ∈ L, c.InT w7) := Lib.hid (fun c hc => ((HLT.out c hc).fr HF6.out hng5).fr hF67 hnb)
      clear HB5 HRT HKT HNT HOT HLT hF6 hO6 hR6 hbv
      go_upto_region 8 with fail
      rw [← hw7]
      clear hw7 hF67 hnb hng5 hob5 c0 c2 f61 c61
      have HBT := HB7
      have HRT := HRT7
      have HKT := HKT7
      have HNT := HNT7
      have HOT := HOT7
      have HLT := HLT7
      have c0 : w7.cell? ⟨b6, 0, none⟩ = some (.slice kA kn kc) := HB7.out.cell 0
      by_cases hk0 : kn = 0
      · subst hk0
        have hke : key_l19 = [] := List.eq_nil_of_length_eq_zero HKN.out.symm
        have HST : Hid (q = none) := Lib.hid (by
         have h1 := HPJ.out
         rw [hNj] at h1
         unfold prs at h1
         rw [HSTP.out, if_pos hke] at h1
         rw [HQ.out, h1]
         refine if_neg (fun h => ?_)
         have h2 := h.1
         dsimp only at h2
         revert h2
         unfold Rs.bad Rs.fin
         split <;> simp_all)
        have HFL := Lib.hid (rfail_any HRT.out 2 (by omega))
        have hfin : (s3.bad 2).fin ≠ 0 := by
         unfold Rs.bad Rs.fin
         split <;> simp_all
        have HFIN := Lib.hid hfin
        clear hfin hke HSTP hNj
        go_wp2_with fail
        refine HFL.out.mono ?_
        rintro e w7 ⟨rfl, hR7, hF7⟩
        have HN7 : Hid (New w w7) := Lib.hid (HNT.out.fr hF7 (fun k hk => by have := HJ.out.gz; omega))
        have HE7 := Lib.hid (rend_any hR7)
        clear hR7 hF7
        go_wp2_with fail
        refine HE7.out.mono ?_
        rintro e w8 ⟨rfl, rfl⟩
        rw [errV_pos HFIN.out]
        go_wp2_with fail
        go_ret2
        exact ⟨.inl ⟨HST.out, rfl⟩, HN7.out⟩
      · have hkne : key_l19 ≠ [] := fun e => hk0 (by have := HKN.out; rw [e] at this; simpa using this)
        have hkp : (0 : Int) < (kn : Int) := by omega
        have hkz : ((kn : Int) == 0) = false := by simp; omega
        have HST : Hid (r = prs (N - (j + 1)) s3 ((L ++ [(⟨⟨kA, kn, kc, key_l19⟩, ⟨vA, vn, vc, val⟩, false⟩ : Ch)]).map pcOf)) := Lib.hid (by
         have h1 := HPJ.out
         rw [hNj] at h1
         unfold prs at h1
         rw [HSTP.out, if_neg hkne] at h1
         rw [h1, List.map_append]
         rfl)
        have hdk : decide ((0 : Int) = (kn : Int)) = false := decide_eq_false (by omega)
        clear hkne HSTP hNj
        have e0 : w7.cell? ⟨b6, 0, none⟩ = some (.slice kA kn kc) := HBT.out.cell 0
        have e1 : w7.cell? ⟨b6, 1, none⟩ = some (.slice vA vn vc) := HBT.out.cell 1
        have e2 : w7.cell? ⟨b6, 2, none⟩ = some (.bool false) := HBT.out.cell 2
        go_wp2_with (first
         | ((with_reducible refine atOpS ⟨some 34, .buildSlice _ _ _, _, _, _, _⟩ ?_); refine wpList_bs1 elC (by decide) rfl (.tmp 33) rfl #[.slice kA kn kc, .slice vA vn vc, .bool false] rfl rfl ?_)
         | (at_builtin; refine atOpS ⟨some 35, _, _, _, _, _⟩ ?_; refine stopHere ?_))
        refine ⟨?_⟩
        refine wpList_app (o := ⟨some 35, _, _, _, _, _⟩) elC _ rfl (.tmp 32) (.tmp 34) rfl w.heap.size (.slice A' m c') m (L.flatMap Ch.cells) rfl (New.own (New.al (New.refl _) _) HOT.out) _ 1 1 [.slice kA kn kc, .slice vA vn vc, .bool false] rfl (Rd.ofBlk (p := fun _ => True) (Blk.new _ 92 #[.slice kA kn kc, .slice vA vn vc, .bool false]) 3 1 rfl trivial) (cells_one ⟨⟨kA, kn, kc, key_l19⟩, ⟨vA, vn, vc, val⟩, false⟩) (by unfold maxLen; omega) (by omega) (by have := HNT.out.size; simp; omega) ?_
        intro A8 d8 w8 hO8 hF8 hA8
        have HN8 : Hid (New w w8) := Lib.hid ((New.al HNT.out _).fr hF8 (fun k hk => (own_lt HOT.out k hk).1))
        have hF8t := ((New.al (New.refl w7) (.cells #[.slice kA kn kc, .slice vA vn vc, .bool false] 92)).toFr (fun k => (Value.slice A' m c').ownBlock = some k)).trans hF8
        have hnB : ∀ k, (Value.slice A' m c').ownBlock = some k → ¬ IsT 5 w7 k := fun k hk => IsT.not_own HOT.out (by decide) hk
        have HI8 : Hid (PrI w g s3 A8 (m + 1) d8 (L ++ [⟨⟨kA, kn, kc, key_l19⟩, ⟨vA, vn, vc, val⟩, false⟩]) w8) := Lib.hid ⟨HN8.out, HJ.out.gz, HRT.out.fr hF8t (fun hk => by
            obtain ⟨Ar, cr, hbr, _⟩ := HRT.out.st
            exact own_ne HOT.out hbr (by decide) hk) hnB, by rw [List.flatMap_append]; simpa [Ch.cells] using hO8, fun c hc => by
            rcases List.mem_append.1 hc with hc | hc
            · exact (HLT.out c hc).fr hF8t hnB
            · rw [List.mem_singleton.1 hc]
              exact Ch.InT.fr (w := w7) (c := ⟨⟨kA, kn, kc, key_l19⟩, ⟨vA, vn, vc, val⟩, false⟩) ⟨HKT.out, HKB.out, HVT.out, HVB.out⟩ hF8t hnB, fun c hc => by
            rcases List.mem_append.1 hc with hc | hc
            · exact HJ.out.sz c hc
            · rw [List.mem_singleton.1 hc]
              exact ⟨HK16.out, HV16.out⟩⟩
        clear hO8 hF8 hA8 hF8t hnB
        go_wp2_with fail
        go_roundw
        case rel => exact ⟨j + 1, m + 1, _, A8, d8, _, by omega, by omega, by go_num, rfl, HI8, HST⟩
        case measure => simp [intOf]; omega
  · obtain rfl : j = N := by omega
    have hpj := HPJ.out
    rw [Nat.sub_self] at hpj
    have hr1 : r.1 = L.map pcOf := by rw [hpj]; rfl
    have hr2 : r.2 = s := by rw [hpj]; rfl
    have hq := HQ.out
    rw [hr1, hr2, pcsOk_of HJ.out.el] at hq
    have HQ2 := Lib.hid hq
    have HE := Lib.hid (rend_any HJ.out.rd)
    have hLm : L.length = m := by have := HJ.out.own.1; rw [cells_len] at this; omega
    have HLM := Lib.hid hLm
    clear hpj hr1 hr2 hq hLm HPJ HRR HQ
    go_wp2_with fail
    refine HE.out.mono ?_
    rintro e w3 ⟨rfl, rfl⟩
    by_cases hf : s.fin = 0
    · rw [hf, errV_zero]
      have hLm := HLM.out
      have HC := Lib.hid (rights_any A' m c' L wr (Rd.own HJ.out.own rfl) hLm (by omega) (fun c hc => by have := HJ.out.sz c hc; unfold maxLen; omega))
      have HRT : Hid (RTb wr A' m L) := Lib.hid ⟨rd_szs (Rd.own HJ.out.own rfl), hLm, fun c hc => (HJ.out.el c hc).in_⟩
      clear hLm
      go_wp2_with fail
      refine HC.out.mono ?_
      rintro e w4 ⟨rfl, hN4⟩
      have HN4 := Lib.hid hN4
      clear hN4 HC
      by_cases hok : chsOk L = true
      · rw [hok]
        have HQ3 : Hid (q = some (L.map pcOf)) := Lib.hid (by rw [HQ2.out, if_pos ⟨hf, hok⟩])
        clear HQ2 hok hf
        go_wp2_with fail
        go_ret2
        exact ⟨.inr ⟨A', m, c', L, HQ3.out, rfl, HRT.out.new HN4.out⟩, HJ.out.new.tr HN4.out⟩
      · have hok : chsOk L = false := by simpa using hok
        rw [hok]
        have HQ3 : Hid (q = none) := Lib.hid (by rw [HQ2.out, if_neg (fun h => by rw [hok] at h; cases h.2)])
        clear HQ2 hok hf
        go_wp2_with fail
        go_ret2
        exact ⟨.inl ⟨HQ3.out, rfl⟩, HJ.out.new.tr HN4.out⟩
    · rw [errV_pos hf]
      have HQ3 : Hid (q = none) := Lib.hid (by rw [HQ2.out, if_neg (fun h => hf h.1)])
      clear HQ2
      go_wp2_with fail
      go_ret2
      exact ⟨.inl ⟨HQ3.out, rfl⟩, HJ.out.new⟩
end Go.Proofs.YtfchcdbfalgdlaaGreatDoor
