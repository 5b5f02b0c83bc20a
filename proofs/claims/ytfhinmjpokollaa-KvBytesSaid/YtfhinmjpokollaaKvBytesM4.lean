/- Texts of one proof, one behind the other: Keys, Num, Typ, KvA. No condition but each one's own. -/
import Derived.Shelf.SlIter.Nil
import Derived.Shelf.SortM.Plain
import Derived.Shelf.SortM.SortNone
import Derived.Test.YtfhinmjpokollaaProg
import Derived.Test.YtfhinmjpokollaaKvBytesM1
import Derived.Test.YtfhinmjpokollaaRows
import Derived.Test.YtfhinmjpokollaaKvBytesM2
import Derived.Test.YtfhinmjpokollaaKvBytesM3
import Derived.Deep.RegionHeld3
import Derived.TacticsInMore
/- slices.Sorted(maps.Keys(m)) at a map of strings to slices of bytes: the kit's contracts at this program (its own tool wrote the numbers). No condition but the map's own. -/
namespace Go.Proofs.Ytfhinmjpokollaa
set_option linter.unusedVariables false
set_option linter.unusedSimpArgs false
set_option linter.constructorNameAsVariable false
open Go.RowKit Go.Maps Go.Sort Go.Shelf

def keysL_ren : Go.Shelf.Ren := ⟨fun | 7 => 63 | 10 => 74 | n => n, fun | 23 => 67 | 26 => 9 | 3 => 39 | 28 => 111 | 0 => 0 | 27 => 110 | 33 => 119 | 4 => 4 | n => n, fun | n => n⟩
theorem keysL : Go.Proofs.SlLaysZ.n7 Try.prog keysL_ren := {
  mixed := by kernel_rfl
  f7 := ⟨Try.f63.name, by decide, Try.func63.trans (congrArg some (by kernel_rfl))⟩
  f10 := ⟨Try.f74.name, by decide, Try.func74.trans (congrArg some (by kernel_rfl))⟩
  t0 := Try.underlying0
  a0 := Try.isAgg0
  z0 := Try.sizeOf0
  v0 := Try.zeroValue0
  t4 := Try.underlying4
  a4 := Try.isAgg4
  z4 := Try.sizeOf4
  v4 := Try.zeroValue4
  t23 := Try.underlying67
  a23 := Try.isAgg67
  z23 := Try.sizeOf67
  v23 := Try.zeroValue67
  t26 := Try.underlying9
  a26 := Try.isAgg9
  z26 := Try.sizeOf9
  v26 := Try.zeroValue9
  t27 := Try.underlying110
  a27 := Try.isAgg110
  z27 := Try.sizeOf110
  v27 := Try.zeroValue110
  t28 := Try.underlying111
  a28 := Try.isAgg111
  z28 := Try.sizeOf111
  v28 := Try.zeroValue111
  t33 := Try.underlying119
  a33 := Try.isAgg119
  z33 := Try.sizeOf119
  v33 := Try.zeroValue119 }
def sortedL_ren : Go.Shelf.Ren := ⟨fun | 6 => 62 | 8 => 72 | 9 => 73 | 11 => 75 | 13 => 77 | 12 => 76 | 23 => 87 | 24 => 88 | 14 => 78 | 15 => 79 | 16 => 80 | 17 => 81 | 18 => 82 | 19 => 83 | 20 => 84 | 21 => 85 | 22 => 86 | 25 => 89 | 26 => 90 | 27 => 91 | 28 => 92 | 29 => 93 | 30 => 94 | 31 => 95 | n => n, fun | 26 => 9 | 28 => 111 | 24 => 80 | 0 => 0 | 3 => 3 | 37 => 116 | 48 => 134 | 50 => 77 | 4 => 4 | 40 => 126 | 39 => 125 | 45 => 131 | 5 => 5 | 9 => 9 | 51 => 136 | 55 => 140 | 57 => 142 | 58 => 143 | 33 => 119 | n => n, fun | n => n⟩
theorem sortedL : Go.Proofs.SlLaysZ.n6 Try.prog sortedL_ren := {
  mixed := by kernel_rfl
  f6 := ⟨Try.f62.name, by decide, Try.func62.trans (congrArg some (by kernel_rfl))⟩
  f8 := ⟨Try.f72.name, by decide, Try.func72.trans (congrArg some (by kernel_rfl))⟩
  f11 := ⟨Try.f75.name, by decide, Try.func75.trans (congrArg some (by kernel_rfl))⟩
  t0 := Try.underlying0
  a0 := Try.isAgg0
  z0 := Try.sizeOf0
  v0 := Try.zeroValue0
  t24 := Try.underlying80
  a24 := Try.isAgg80
  z24 := Try.sizeOf80
  v24 := Try.zeroValue80
  t26 := Try.underlying9
  a26 := Try.isAgg9
  z26 := Try.sizeOf9
  v26 := Try.zeroValue9
  t28 := Try.underlying111
  a28 := Try.isAgg111
  z28 := Try.sizeOf111
  v28 := Try.zeroValue111
  i26 := by kernel_rfl }
def sortL_ren : Go.Shelf.Ren := ⟨fun | 6 => 73 | 8 => 77 | 9 => 76 | 19 => 87 | 20 => 88 | 21 => 78 | 22 => 79 | 23 => 80 | 24 => 81 | 25 => 82 | 26 => 83 | 27 => 84 | 28 => 85 | 29 => 86 | 36 => 89 | 31 => 90 | 32 => 91 | 37 => 92 | 38 => 93 | 39 => 94 | 41 => 95 | n => n, fun | 27 => 80 | 29 => 9 | 3 => 3 | 32 => 116 | 26 => 80 | 0 => 0 | 44 => 134 | 46 => 77 | 4 => 4 | 36 => 126 | 35 => 125 | 41 => 131 | 5 => 5 | 9 => 9 | 53 => 136 | 57 => 140 | 63 => 142 | 64 => 143 | n => n, fun | n => n⟩
theorem sortL : Go.Proofs.SlLaysM.n6 Try.prog sortL_ren := {
  mixed := by kernel_rfl
  f6 := ⟨Try.f73.name, by decide, Try.func73.trans (congrArg some (by kernel_rfl))⟩
  f8 := Try.func77.trans (congrArg some (by kernel_rfl))
  f9 := ⟨Try.f76.name, by decide, Try.func76.trans (congrArg some (by kernel_rfl))⟩
  f19 := Try.func87.trans (congrArg some (by kernel_rfl))
  f20 := Try.func88.trans (congrArg some (by kernel_rfl))
  f21 := ⟨Try.f78.name, by decide, Try.func78.trans (congrArg some (by kernel_rfl))⟩
  f22 := ⟨Try.f79.name, by decide, Try.func79.trans (congrArg some (by kernel_rfl))⟩
  f23 := ⟨Try.f80.name, by decide, Try.func80.trans (congrArg some (by kernel_rfl))⟩
  f24 := ⟨Try.f81.name, by decide, Try.func81.trans (congrArg some (by kernel_rfl))⟩
  f25 := ⟨Try.f82.name, by decide, Try.func82.trans (congrArg some (by kernel_rfl))⟩
  f26 := ⟨Try.f83.name, by decide, Try.func83.trans (congrArg some (by kernel_rfl))⟩
  f27 := ⟨Try.f84.name, by decide, Try.func84.trans (congrArg some (by kernel_rfl))⟩
  f28 := ⟨Try.f85.name, by decide, Try.func85.trans (congrArg some (by kernel_rfl))⟩
  f29 := ⟨Try.f86.name, by decide, Try.func86.trans (congrArg some (by kernel_rfl))⟩
  f31 := Try.func90.trans (congrArg some (by kernel_rfl))
  f32 := Try.func91.trans (congrArg some (by kernel_rfl))
  f36 := ⟨Try.f89.name, by decide, Try.func89.trans (congrArg some (by kernel_rfl))⟩
  f37 := ⟨Try.f92.name, by decide, Try.func92.trans (congrArg some (by kernel_rfl))⟩
  f38 := ⟨Try.f93.name, by decide, Try.func93.trans (congrArg some (by kernel_rfl))⟩
  f39 := ⟨Try.f94.name, by decide, Try.func94.trans (congrArg some (by kernel_rfl))⟩
  f41 := ⟨Try.f95.name, by decide, Try.func95.trans (congrArg some (by kernel_rfl))⟩
  t0 := Try.underlying0
  a0 := Try.isAgg0
  z0 := Try.sizeOf0
  v0 := Try.zeroValue0
  t3 := Try.underlying3
  a3 := Try.isAgg3
  z3 := Try.sizeOf3
  v3 := Try.zeroValue3
  t4 := Try.underlying4
  a4 := Try.isAgg4
  z4 := Try.sizeOf4
  v4 := Try.zeroValue4
  t5 := Try.underlying5
  a5 := Try.isAgg5
  z5 := Try.sizeOf5
  v5 := Try.zeroValue5
  t9 := Try.underlying9
  a9 := Try.isAgg9
  z9 := Try.sizeOf9
  v9 := Try.zeroValue9
  t26 := Try.underlying80
  a26 := Try.isAgg80
  z26 := Try.sizeOf80
  v26 := Try.zeroValue80
  t27 := Try.underlying80
  a27 := Try.isAgg80
  z27 := Try.sizeOf80
  v27 := Try.zeroValue80
  t29 := Try.underlying9
  a29 := Try.isAgg9
  z29 := Try.sizeOf9
  v29 := Try.zeroValue9
  t32 := Try.underlying116
  a32 := Try.isAgg116
  z32 := Try.sizeOf116
  v32 := Try.zeroValue116
  t35 := Try.underlying125
  a35 := Try.isAgg125
  z35 := Try.sizeOf125
  v35 := Try.zeroValue125
  t36 := Try.underlying126
  a36 := Try.isAgg126
  z36 := Try.sizeOf126
  v36 := Try.zeroValue126
  t41 := Try.underlying131
  a41 := Try.isAgg131
  z41 := Try.sizeOf131
  v41 := Try.zeroValue131
  t44 := Try.underlying134
  a44 := Try.isAgg134
  z44 := Try.sizeOf134
  v44 := Try.zeroValue134
  t46 := Try.underlying77
  a46 := Try.isAgg77
  z46 := Try.sizeOf77
  v46 := Try.zeroValue77
  t53 := Try.underlying136
  a53 := Try.isAgg136
  z53 := Try.sizeOf136
  v53 := Try.zeroValue136
  t57 := Try.underlying140
  a57 := Try.isAgg140
  z57 := Try.sizeOf140
  v57 := Try.zeroValue140
  t63 := Try.underlying142
  a63 := Try.isAgg142
  z63 := Try.sizeOf142
  v63 := Try.zeroValue142
  t64 := Try.underlying143
  a64 := Try.isAgg143
  z64 := Try.sizeOf143
  v64 := Try.zeroValue143 }
/-- slices.Sort's two contracts at this dump, at the fence that asks nothing. -/
theorem sortsL (m : Nat) : AnyZ.SortsIn Try.prog sortedL_ren Fence.wide m :=
  ⟨fun blk off cap ss W hH hblk hsz => callsIn_wide.2 (AnyM.slices_Sort_string sortL blk off cap ss W hH hblk hsz),
   fun p cap W => callsIn_wide.2 (AnyM.slices_Sort_string_none sortL p cap W)⟩

/-- **maps.Keys[map[string][]byte,string,[]byte], at whatever map, the nil one too:** a function value over ONE NEW BLOCK, which holds the map. -/
theorem maps_keys (mb : Option Nat) (W : World) : CallsIn Fence.wide 5 Try.prog 63 #[.map mb] W fun e w' => e = .returned (.func (.func 74) #[] #[.pointer (some ⟨W.heap.size, 0, none⟩)]) ∧ w' = W.alloc (.cells #[.map mb] 67) :=
  AnyZ.keys_in keysL Fence.wide 5 trivial rfl mb W

set_option maxHeartbeats 1000000 in
/-- **slices.Sorted[string] AT WHAT maps.Keys[map[string][]byte,string,[]byte] HANDED BACK FOR A MAP THAT IS NOT nil** ('w': the world AHEAD of maps.Keys' call): A NEW SLICE THAT HOLDS THE MAP's KEYS, SORTED; nil just where it has none; nothing that lay before has turned. -/
theorem sorted_keys {H : Type} (b nn : Nat) (D0 : DataW H) (R : Value → Option (DataW H × List MemPlace)) (w : World) (hown : w.ownsMap Try.prog 9 R b nn D0) (hmax : Maps.size D0 ≤ maxLen) (hbytes : Maps.size D0 * 16 ≤ 140737488355328) :
    CallsIn Fence.wide 5 Try.prog 62 #[.func (.func 74) #[] #[.pointer (some ⟨w.heap.size, 0, none⟩)]] (w.alloc (.cells #[.map (some b)] 67)) fun e w' => ∃ (v : Value) (ss : List (List UInt8)), e = .returned v ∧ ss.Perm (strKeys D0) ∧
      w'.ownsRow (w.alloc (.cells #[.map (some b)] 67)).heap.size 9 1 v ss.length ((ss.mergeSort (fun x y => decide (x ≤ y))).map encStr) ∧ (v = .slice none 0 0 ↔ ss = []) ∧ Below (w.alloc (.cells #[.map (some b)] 67)).heap.size (w.alloc (.cells #[.map (some b)] 67)) w' := by
  have hbl := hown.lt
  have hseq : SeqGives Fence.wide 2 Try.prog 74 #[.pointer (some ⟨w.heap.size, 0, none⟩)] encStr (fun ss => ss.Perm (strKeys D0)) (Maps.size D0) (w.alloc (.cells #[.map (some b)] 67)) :=
    AnyZ.keys_gives (ρ := keysL_ren) { keysL with } Fence.wide _ trivial rfl (by omega) w.heap.size b nn D0 _ (by simp) (by simp) (by
      obtain ⟨es, clock, hb, Ft, hs, hD⟩ := hown
      exact ⟨es, clock, (Below.heap_alloc _ _ b hbl).trans hb, Ft, hs, hD⟩)
  exact AnyZ.sorted_in sortedL Fence.wide 5 trivial trivial trivial trivial rfl (by omega) (sortsL _) (enters_of Try.func73 (by kernel_rfl) rfl) 74 #[.pointer (some ⟨w.heap.size, 0, none⟩)] trivial (enters_of Try.func74 (by kernel_rfl) rfl) _ _ hmax hbytes _ hseq

set_option maxHeartbeats 1000000 in
/-- **.. AND FOR THE nil MAP: nil.** -/
theorem sorted_keys_nil (w : World) :
    CallsIn Fence.wide 5 Try.prog 62 #[.func (.func 74) #[] #[.pointer (some ⟨w.heap.size, 0, none⟩)]] (w.alloc (.cells #[.map none] 67)) fun e w' => ∃ (v : Value) (ss : List (List UInt8)), e = .returned v ∧ ss = [] ∧
      w'.ownsRow (w.alloc (.cells #[.map none] 67)).heap.size 9 1 v ss.length ((ss.mergeSort (fun x y => decide (x ≤ y))).map encStr) ∧ (v = .slice none 0 0 ↔ ss = []) ∧ Below (w.alloc (.cells #[.map none] 67)).heap.size (w.alloc (.cells #[.map none] 67)) w' := by
  have hseq : SeqGives Fence.wide 2 Try.prog 74 #[.pointer (some ⟨w.heap.size, 0, none⟩)] encStr (fun ss : List (List UInt8) => ss = []) 0 (w.alloc (.cells #[.map none] 67)) :=
    AnyZ.keys_gives_nil (ρ := keysL_ren) { keysL with } Fence.wide _ trivial rfl w.heap.size _ (by simp) (by simp)
  exact AnyZ.sorted_in sortedL Fence.wide 5 trivial trivial trivial trivial rfl (by omega) (sortsL _) (enters_of Try.func73 (by kernel_rfl) rfl) 74 #[.pointer (some ⟨w.heap.size, 0, none⟩)] trivial (enters_of Try.func74 (by kernel_rfl) rfl) _ 0 (Nat.zero_le _) (by omega) _ hseq



end Go.Proofs.Ytfhinmjpokollaa
/- entrustnum.Num and entrustnum.Is, of errors that are api.Errno's or nil. No condition. -/
namespace Go.Proofs.Ytfhinmjpokollaa
set_option linter.unusedVariables false
set_option linter.unusedSimpArgs false
set_option linter.constructorNameAsVariable false
open Go.RowKit

theorem ta_errno (n : Int) (w : World) : (Instr.typeAssert (.iface 36 (.int .i64 n)) 31 36 true).run Try.prog w = .ok (.tuple #[.int .i64 n, .bool true]) w := by
  simp [Instr.typeAssert, run_underlying Try.underlying36]

theorem num_some (n : Int) (w : World) (h1 : 1 ≤ n) : Calls Try.prog 34 #[.iface 36 (.int .i64 n)] w fun e w' => e = .returned (.int .i64 n) ∧ w = w' := by
  have ta := ta_errno n w
  have hz : (n != 0) = true := by simp; omega
  go_enter Try.func34, Try.ntmps34
  go_wp2_with fail
  go_ret
  exact ⟨rfl, rfl⟩
theorem num_none (w : World) : Calls Try.prog 34 #[.nilIface] w fun e w' => e = .returned (.int .i64 0) ∧ w = w' := by
  go_enter Try.func34, Try.ntmps34
  go_wp2_with fail
  go_ret
  exact ⟨rfl, rfl⟩
theorem is_some (n m : Int) (w : World) (h1 : 1 ≤ n) : Calls Try.prog 15 #[.iface 36 (.int .i64 n), .int .i64 m] w fun e w' => e = .returned (.bool (n == m)) ∧ w = w' := by
  go_enter Try.func15, Try.ntmps15
  go_wp2_with fail
  refine (num_some n _ h1).mono ?_
  rintro e w1 ⟨rfl, rfl⟩
  go_wp2_with fail
  go_ret
  exact ⟨rfl, rfl⟩
theorem is_none (m : Int) (w : World) (h1 : 1 ≤ m) : Calls Try.prog 15 #[.nilIface, .int .i64 m] w fun e w' => e = .returned (.bool false) ∧ w = w' := by
  have hz : ((0 : Int) == m) = false := by simp; omega
  go_enter Try.func15, Try.ntmps15
  go_wp2_with fail
  refine (num_none _).mono ?_
  rintro e w1 ⟨rfl, rfl⟩
  go_wp2_with fail
  go_ret
  exact ⟨rfl, rfl⟩
end Go.Proofs.Ytfhinmjpokollaa
/- Slices that lie in blocks of one type. No condition. -/
namespace Go.Proofs.Ytfhinmjpokollaa
set_option linter.unusedVariables false
set_option linter.unusedSimpArgs false
set_option linter.constructorNameAsVariable false
open Go.RowKit Go.Maps

/-- Block b has cells of type t. -/
def IsT (t : TypeId) (w : World) (b : Nat) : Prop := ∃ (cs : Array Value) (fz : Nat × Nat), w.heap[b]? = some (.cells cs t fz)
theorem IsT.fr {t : TypeId} {w w' : World} {S : Nat → Prop} {b : Nat} (h : IsT t w b) (hf : Fr S w w') (hs : ¬ S b) : IsT t w' b := by
  obtain ⟨cs, fz, hb⟩ := h
  exact ⟨cs, fz, (hf.block b (Array.getElem?_eq_some_iff.1 hb).1 hs).trans hb⟩
theorem IsT.not_blk {t t' : TypeId} {w : World} {cs : Array Value} {k : Nat} (h : Blk w k t' cs) (ht : t' ≠ t) : ¬ IsT t w k := by
  rintro ⟨cs', fz, hb⟩
  unfold Blk at h
  rw [h] at hb
  injection hb with hb
  injection hb with _ hb
  exact ht hb
theorem IsT.not_own {t : TypeId} {w : World} {base e s n k : Nat} {v : Value} {xs : List Value} (h : w.ownsRow base e s v n xs) (he : e ≠ t) (hk : v.ownBlock = some k) : ¬ IsT t w k := by
  rcases h.2 with ⟨rfl, _⟩ | ⟨g', cap, cur, rfl, _, hh, _⟩
  · cases hk
  · have : g' = k := by simpa [Value.ownBlock] using hk
    subst this
    exact IsT.not_blk hh he
theorem IsT.not_map {t : TypeId} {w : World} {P : Program} {kt : TypeId} {b n : Nat} {f : Lit → Option Value} (h : MapAt w P kt b n f) : ¬ IsT t w b := by
  rintro ⟨cs, fz, hb⟩
  obtain ⟨D, ⟨es, clock, hx, _⟩, _⟩ := h
  rw [hx] at hb
  cases hb
/-- A slice that lies in blocks of type t. -/
def RdT (t : TypeId) (w : World) (size : Nat) (A : Option Addr) (n : Nat) (xs : List Value) : Prop := Rd (IsT t w) w size A n xs
section
variable {t : TypeId} {w w' : World} {S : Nat → Prop} {size n : Nat} {A : Option Addr} {xs : List Value}
theorem RdT.fr (h : RdT t w size A n xs) (hf : Fr S w w') (hs : ∀ k, S k → ¬ IsT t w k) : RdT t w' size A n xs := by
  refine ⟨h.1, fun hn => ?_⟩
  obtain ⟨ad, e, hb, hlt, hc⟩ := h.2 hn
  have hns : ¬ S ad.block := fun hk => hs _ hk hb
  exact ⟨ad, e, hb.fr hf hns, Nat.lt_of_lt_of_le hlt hf.size, fun j u hu => by
    have := hc j u hu
    rwa [← hf.cell (p := ad.add j) (by rw [add_block]; exact hlt) (by rw [add_block]; exact hns)] at this⟩
theorem RdT.new (h : RdT t w size A n xs) (hN : New w w') : RdT t w' size A n xs := h.fr (hN.toFr NoB) (fun _ x => x.elim)
theorem RdT.own {base : Nat} {v : Value} {c : Nat} (h : w.ownsRow base t size v n xs) (hv : v = .slice A n c) : RdT t w size A n xs := by
  refine ⟨h.1, fun hn => ?_⟩
  obtain ⟨ad, e, hp, hlt, hc⟩ := (Rd.own h hv).2 hn
  refine ⟨ad, e, ?_, hlt, hc⟩
  subst hv
  rcases h.2 with ⟨h', _⟩ | ⟨g', cap', cur, h', _, hh, _⟩
  · injection h' with h'; rw [h'] at e; cases e
  · injection h' with h'
    rw [h'] at e
    injection e with e
    subst e
    exact ⟨_, _, hh⟩
theorem RdT.nil : RdT t w size A 0 [] := Rd.nil
end
end Go.Proofs.Ytfhinmjpokollaa
/- Tables: in memory, in plain words; New, a right batch done, the keys. No condition but that all can be read. -/
namespace Go.Proofs.Ytfhinmjpokollaa
set_option linter.unusedVariables false
set_option linter.unusedSimpArgs false
set_option linter.constructorNameAsVariable false
open Go.RowKit Go.Maps Go.Sort

def key (xs : List Int) : Lit := .string (strOfNums xs).data.toList
theorem key_inj {xs ys : List Int} (hx : Byt xs) (hy : Byt ys) (h : key xs = key ys) : xs = ys := by
  have := str_inj hx hy
  unfold key at h
  injection h with h
  have e : (strOfNums xs).toList = (strOfNums ys).toList := by
    have : strOfNums xs = strOfNums ys := by
      have : (strOfNums xs).data = (strOfNums ys).data := Array.toList_inj.1 h
      exact ByteArray.ext this
    rw [this]
  simpa [e] using this
theorem keyS : Keyed Try.prog 9 := string_keyed Try.underlying9
theorem key_of {xs : List Int} (h : xs.length ≤ 1000000) : keyOf Try.prog 9 (.string (strOfNums xs)) = some (key xs) :=
  Go.WideMaps.keyOf_string_mk Try.underlying9 (by rw [strOfNums_size]; unfold maxLen; omega)

/-- A table in plain words: values by keys, each key once. -/
abbrev Tab := List (List Int × Fm)
def tdel (E : Tab) (k : List Int) : Tab := E.filter fun e => decide (e.1 ≠ k)
def tput (E : Tab) (k : List Int) (v : Fm) : Tab := tdel E k ++ [(k, v)]
theorem lookup_del (E : Tab) (k ys : List Int) : (tdel E k).lookup ys = if ys = k then none else E.lookup ys := by
  unfold tdel
  induction E with
  | nil => simp
  | cons e E ih =>
    obtain ⟨x, v⟩ := e
    by_cases hx : x = k
    · rw [List.filter_cons_of_neg (by simp [hx]), ih]
      by_cases hy : ys = k
      · rw [if_pos hy, if_pos hy]
      · rw [if_neg hy, if_neg hy, List.lookup_cons]
        have : (ys == x) = false := by simp; intro h; exact hy (h.trans hx)
        rw [this]
    · rw [List.filter_cons_of_pos (by simp [hx]), List.lookup_cons, List.lookup_cons, ih]
      by_cases hy : ys = x
      · have : ¬ ys = k := fun h => hx (hy.symm.trans h)
        simp [hy, hx]
      · have : (ys == x) = false := by simpa using hy
        rw [this]
theorem lookup_put (E : Tab) (k ys : List Int) (v : Fm) : (tput E k v).lookup ys = if ys = k then some v else E.lookup ys := by
  unfold tput
  rw [List.lookup_append, lookup_del]
  by_cases hy : ys = k
  · subst hy; simp
  · rw [if_neg hy, if_neg hy]
    have : (ys == k) = false := by simpa using hy
    show (E.lookup ys).or (match ys == k with | true => some v | false => none) = _
    rw [this]
    cases E.lookup ys <;> rfl
theorem nd_del {E : Tab} (h : (E.map Prod.fst).Nodup) (k : List Int) : ((tdel E k).map Prod.fst).Nodup := (List.Sublist.map _ List.filter_sublist).nodup h
theorem nd_put {E : Tab} (h : (E.map Prod.fst).Nodup) (k : List Int) (v : Fm) : ((tput E k v).map Prod.fst).Nodup := by
  unfold tput
  rw [List.map_append, List.nodup_append]
  refine ⟨nd_del h k, by simp, fun x hx y hy e => ?_⟩
  simp at hy
  subst hy e
  simp [tdel] at hx
theorem mem_del {E : Tab} {k : List Int} {e : List Int × Fm} (h : e ∈ tdel E k) : e ∈ E := (List.mem_filter.1 h).1
theorem mem_put {E : Tab} {k : List Int} {v : Fm} {e : List Int × Fm} (h : e ∈ tput E k v) : e ∈ E ∨ e = (k, v) := by
  rcases List.mem_append.1 h with h | h
  · exact .inl (mem_del h)
  · exact .inr (List.mem_singleton.1 h)
/-- A table in memory. -/
structure TbIn (X : Nat → Prop) (w : World) (base g b m : Nat) (E : Tab) : Prop where
  blk : Blk w g 69 #[.map (some b)]
  map : ∃ f, MapAt w Try.prog 9 b m f ∧ (∀ xs, Byt xs → f (key xs) = (E.lookup xs).map Fm.val) ∧ ∀ kl, (f kl).isSome = true → ∃ xs, Byt xs ∧ kl = key xs
  nd : (E.map Prod.fst).Nodup
  el : ∀ e ∈ E, Byt e.1 ∧ e.1.length ≤ 16 ∧ e.2.In X w ∧ e.2.n ≤ 16384
  gb : base ≤ g
  lb : base ≤ b
  xs : ∀ k, X k → base ≤ k ∧ IsT 5 w k
/-- A table's own blocks that are written. -/
def Tw (b : Nat) (k : Nat) : Prop := k = b
section
variable {X : Nat → Prop} {w w' : World} {base g b m : Nat} {E : Tab} {S : Nat → Prop}
theorem Fm.In.fr {P : Nat → Prop} {x : Fm} (h : x.In P w) (hF : Fr S w w') (hS : ∀ k, P k → ¬ S k) : x.In P w' := ⟨h.rd.fr hF hS, h.byt⟩
theorem TbIn.fr (h : TbIn X w base g b m E) (hF : Fr S w w') (h1 : ¬ S g) (h2 : ¬ S b) (h3 : ∀ k, S k → ¬ X k) : TbIn X w' base g b m E := by
  obtain ⟨f, hm, r⟩ := h.map
  exact ⟨h.blk.fr hF h1, ⟨f, hm.fr hF h2, r⟩, h.nd, fun e he => ⟨(h.el e he).1, (h.el e he).2.1, (h.el e he).2.2.1.fr hF (fun k hk hs => h3 k hs hk), (h.el e he).2.2.2⟩, h.gb, h.lb, fun k hk => ⟨(h.xs k hk).1, (h.xs k hk).2.fr hF (fun hs => h3 k hs hk)⟩⟩
theorem TbIn.new (h : TbIn X w base g b m E) (hN : New w w') : TbIn X w' base g b m E := h.fr (hN.toFr NoB) (fun x => x) (fun x => x) (fun _ x => x.elim)
theorem TbIn.blt (h : TbIn X w base g b m E) : b < w.heap.size := by obtain ⟨f, hm, _⟩ := h.map; exact hm.lt
theorem TbIn.gne (h : TbIn X w base g b m E) : g ≠ b := by
  rintro rfl
  obtain ⟨f, ⟨D, ⟨es, clock, hx, _⟩, _⟩, _⟩ := h.map
  have hb := h.blk
  unfold Blk at hb
  rw [hx] at hb
  cases hb
theorem TbIn.bX (h : TbIn X w base g b m E) : ¬ X b := fun hx => by
  obtain ⟨f, hm, _⟩ := h.map
  exact IsT.not_map hm (h.xs b hx).2
theorem TbIn.gX (h : TbIn X w base g b m E) : ¬ X g := fun hx => IsT.not_blk h.blk (by decide) (h.xs g hx).2
end
theorem new_any (base : Nat) (w : World) (hb : base ≤ w.heap.size) : Calls Try.prog 9 #[] w fun e w' => ∃ g b, e = .returned (.pointer (some ⟨g, 0, none⟩)) ∧ TbIn (fun _ => False) w' base g b 0 [] ∧ New w w' ∧ w.heap.size ≤ g ∧ w.heap.size ≤ b := by
  have hmk := @run_makeMap Try.prog
  go_enter Try.func9, Try.ntmps9
  go_wp2_with fail
  go_ret
  refine ⟨w.heap.size + 1, w.heap.size, rfl, ⟨Blk.new' _ _ _ (by simp), ⟨fun _ => none, (MapAt.made w Try.prog 9).alloc _, fun xs _ => by simp, fun kl h => by simp at h⟩, by simp, (fun e he => by cases he), (by omega), hb, fun k hk => hk.elim⟩, New.al (New.al (New.refl _) _) _, by omega, Nat.le_refl _⟩
theorem strs_of {xs : List Int} : (strOfNums xs).data.toList = xs.map (fun x => UInt8.ofNat x.toNat) := by
  rw [strOfNums_data]
/-- A table's keys, sorted. -/
def kbytes (E : Tab) : List (List UInt8) := E.map fun e => (strOfNums e.1).data.toList
theorem kb_len (E : Tab) : (kbytes E).length = E.length := by simp [kbytes]
theorem lookup_mem {E : Tab} {xs : List Int} {v : Fm} (h : E.lookup xs = some v) : (xs, v) ∈ E := by
  induction E with
  | nil => simp at h
  | cons e E ih =>
    obtain ⟨x, u⟩ := e
    rw [List.lookup_cons] at h
    by_cases hx : xs = x
    · subst hx
      simp at h
      simp [h]
    · have : (xs == x) = false := by simpa using hx
      rw [this] at h
      exact List.mem_cons_of_mem _ (ih h)
theorem mem_lookup {E : Tab} (hn : (E.map Prod.fst).Nodup) {e : List Int × Fm} (h : e ∈ E) : E.lookup e.1 = some e.2 := by
  induction E with
  | nil => cases h
  | cons d E ih =>
    obtain ⟨x, u⟩ := d
    rw [List.map_cons, List.nodup_cons] at hn
    rcases List.mem_cons.1 h with rfl | h
    · simp
    · rw [List.lookup_cons]
      have : (e.1 == x) = false := by
        simp
        intro hx
        exact hn.1 (hx ▸ List.mem_map.2 ⟨e, h, rfl⟩)
      rw [this]
      exact ih hn.2 h
theorem kb_nodup {E : Tab} (hn : (E.map Prod.fst).Nodup) (hb : ∀ e ∈ E, Byt e.1) : (kbytes E).Nodup := by
  unfold kbytes
  refine List.pairwise_map.2 ((List.pairwise_map.1 hn).imp_of_mem fun {a b} ha hb' hne e => hne ?_)
  exact key_inj (hb a ha) (hb b hb') (by unfold key; rw [e])
theorem tb_perm {X : Nat → Prop} {w : World} {base g b m : Nat} {E : Tab} (h : TbIn X w base g b m E) : ∃ D : DataW Value, w.ownsMap Try.prog 9 Rv b m D ∧ (kbytes E).Perm (strKeys D) := by
  obtain ⟨f, ⟨D, hD, hf⟩, h1, h2⟩ := h.map
  refine ⟨D, hD, ?_⟩
  refine Collected.perm (left := fun _ => false) (ss := kbytes E) ⟨kb_nodup h.nd (fun e he => (h.el e he).1), fun x => ?_⟩ hD keyS Try.underlying9 (fun _ => rfl)
  have hiff : has D (.string x) = true ↔ (f (.string x)).isSome = true := by
    rw [hf]
    cases has D (.string x) <;> simp
  rw [hiff]
  simp only [and_true]
  constructor
  · intro hx
    obtain ⟨e, he, rfl⟩ := List.mem_map.1 hx
    have := h1 e.1 (h.el e he).1
    rw [mem_lookup h.nd he] at this
    show (f (key e.1)).isSome = true
    rw [this]
    rfl
  · intro hx
    obtain ⟨xs, hb, hk⟩ := h2 _ hx
    rw [hk, h1 xs hb] at hx
    cases hl : E.lookup xs with
    | none => rw [hl] at hx; cases hx
    | some v =>
      have := lookup_mem hl
      unfold key at hk
      injection hk with hk
      exact List.mem_map.2 ⟨(xs, v), this, hk.symm⟩
set_option maxHeartbeats 2000000 in
theorem keys_any {X : Nat → Prop} {w : World} {base g b m : Nat} {E : Tab} (h : TbIn X w base g b m E) (hm : m ≤ 1000000) :
    Calls Try.prog 45 #[.pointer (some ⟨g, 0, none⟩)] w fun e w' => (∃ v, e = .returned v ∧ w'.ownsRow w.heap.size 9 1 v E.length (((kbytes E).mergeSort leB).map encStr)) ∧ New w w' := by
  obtain ⟨D, hD, hP⟩ := tb_perm h
  have hsz := hD.size_le
  have c0 : w.cell? ⟨g, 0, none⟩ = some (.map (some b)) := h.blk.cell 0
  have HS := Lib.hid (sorted_keys b m D Rv w hD (by unfold maxLen; omega) (by omega))
  have HP := Lib.hid hP
  clear h hD hP hsz hm
  refine (callsIn_wide (n := 6)).1 ?_
  have hfK : Fence.wide.fn 63 := trivial
  have hfS : Fence.wide.fn 62 := trivial
  refine callsIn_of_wp Try.func45 rfl trivial ?_ rfl
  simp only [Try.ntmps45, List.size_toArray, List.length_cons, List.length_nil, Nat.reduceAdd, Nat.reduceSub, Array.replicate_succ, Array.replicate_zero, List.push_toArray, List.append_toArray, List.nil_append, List.cons_append]
  gi_wp2_with (first
    | (gi_at_call 63; refine (maps_keys _ _).mono ?_; rintro e w' ⟨rfl, rfl⟩)
    | (gi_at_call 62; refine HS.out.mono ?_; rintro e w' ⟨v, ss, rfl, hS, hrow, hnil, hb⟩))
  go_ret
  have hpp := hS.trans HP.out.symm
  have hl : ss.length = E.length := by rw [hpp.length_eq, kb_len]
  have hr : w'.ownsRow w.heap.size 9 1 v ss.length ((ss.mergeSort (fun x y => decide (x ≤ y))).map encStr) := ownsRow_base_a hrow (by simp)
  have hq : ss.mergeSort (fun x y => decide (x ≤ y)) = (kbytes E).mergeSort leB := mergeSort_of_perm hpp
  rw [hl, hq] at hr
  exact ⟨⟨v, rfl, hr⟩, ((Below.refl _ w).alloc (Nat.le_refl _) _).trans (hb.mono (by simp))⟩
theorem keys_nil (w : World) : Calls Try.prog 45 #[.pointer none] w fun e w' => e = .returned (.slice none 0 0) ∧ w = w' := by
  go_enter Try.func45, Try.ntmps45
  go_wp2_with fail
  go_ret
  exact ⟨rfl, rfl⟩
theorem len_any {X : Nat → Prop} {w : World} {base g b m : Nat} {E : Tab} (h : TbIn X w base g b m E) (hm : m ≤ 1000000) (hE : E.length ≤ 1000000) :
    Calls Try.prog 28 #[.pointer (some ⟨g, 0, none⟩)] w fun e w' => e = .returned (.int .i64 E.length) ∧ New w w' := by
  have HK := Lib.hid (keys_any h hm)
  clear h hm
  go_enter Try.func28, Try.ntmps28
  go_wp2_with fail
  refine HK.out.mono ?_
  rintro e w1 ⟨⟨v, rfl, hO⟩, hN1⟩
  obtain ⟨A, c, rfl, -, -, -, -⟩ := own_shape hO
  have HN1 := Lib.hid hN1
  clear hO hN1
  go_wp2_with fail
  go_ret
  exact ⟨rfl, HN1.out⟩
theorem len_nil (w : World) : Calls Try.prog 28 #[.pointer none] w fun e w' => e = .returned (.int .i64 0) ∧ w = w' := by
  go_enter Try.func28, Try.ntmps28
  go_wp2_with fail
  refine (keys_nil _).mono ?_
  rintro e w' ⟨rfl, rfl⟩
  go_wp2_with fail
  go_ret
  exact ⟨rfl, rfl⟩
end Go.Proofs.Ytfhinmjpokollaa
