/- Texts of one proof, one behind the other: OcH, Wp. No condition but each one's own. -/
import Derived.Test.YtfchcdbfalgdlaaGreatDoorSweepKeepsM4
import Derived.Test.YtfchcdbfalgdlaaGreatDoorSweepKeepsM10
import Derived.Test.YtfchcdbfalgdlaaGreatDoorSweepKeepsM5
import Derived.Test.YtfchcdbfalgdlaaGreatDoorSweepKeepsM1
namespace Go.Proofs.YtfchcdbfalgdlaaGreatDoor
set_option linter.unusedVariables false
set_option linter.unusedSimpArgs false
set_option linter.constructorNameAsVariable false
open Go.RowKit Go.Sort
theorem mix_copyF {P : Program} {ops : Array Oper} {Q : Exit → Act → World → Prop} {S : World → Prop} {last i : Nat} {w : World} {o : Oper} {sc : List (Bool × Nat)} {a : Act} (hop : ops[i]? = some o) (hw : Region.wanted o (yielded ops a.tmps) = true) (d s : Operand) (dT sT : TypeId)
    (ho : o.op = .call { callee := .builtin .copy, args := #[d, s], argTypes := #[dT, sT] }) (elem : TypeId) (hu : P.underlying dT = some (.slice elem)) (hsz : (P.info? elem).map (·.size) = some 1)
    (g off dLen dCap : Nat) (sp : Option Addr) (sLen sCap : Nat) (hd : a.eval d = .slice (some ⟨g, off, none⟩) dLen dCap) (hs : a.eval s = .slice sp sLen sCap)
    (cur : List Value) (t : TypeId) (hg : Blk w g t cur.toArray) (cs : List Value) (hn : cs.length = Nat.min sLen dLen) {q : Nat → Prop}
    (hsrc : ∃ n xs, Rd q w 1 sp n xs ∧ xs.take cs.length = cs) (hfit : off + cs.length ≤ cur.length) (h1 : ∀ v ∈ cs, v.oneCell' = true)
    (h : ∀ w', Blk w' g t (splice cur off cs).toArray → Fr (fun k => k = g) w w' → (i ≠ last → S w') ∧ wpMix P ops S last Q sc (a.put o.dst (goInt cs.length)) w') : wpMix P ops S last Q ((false, i) :: sc) a w := by
 refine ⟨o, hop, ?_⟩
 rw [if_pos hw]
 by_cases h0 : cs.length = 0
 · obtain rfl : cs = [] := List.eq_nil_of_length_eq_zero h0
   have hrun := run_copy_none (P := P) w dT sT o.type elem (some ⟨g, off, none⟩) sp dLen dCap sLen sCap hu hsz (by simpa using hn.symm)
   unfold Oper.wp
   simp [execOp, ho, resolve, invoke, builtin, hd, hs, hrun, Result.andThen]
   exact h w (by simpa [splice] using hg) (Fr.refl _ _)
 · obtain ⟨n, xs, hR, htk⟩ := hsrc
   have hnp : 0 < n := by
    have h2 := hR.1
    have h3 := congrArg List.length htk
    rw [List.length_take] at h3
    omega
   obtain ⟨ad, rfl, -, -, hc⟩ := hR.2 hnp
   have hrun := run_copy_row (P := P) w dT sT o.type elem g off dLen dCap ad sLen sCap cur.toArray t cs hu hsz hg hn (fun j v hv => hc j v (by
    have hj := (List.getElem?_eq_some_iff.1 hv).1
    rw [← htk, List.getElem?_take_of_lt hj] at hv
    exact hv)) (by simpa using hfit) h1
   obtain ⟨r1, r2⟩ := setRow_blk (cs' := (cur.toArray.toList.take off ++ cs ++ cur.toArray.toList.drop (off + cs.length)).toArray) hg
   have hh := h _ (by simpa [splice] using r1) r2
   obtain ⟨W, hW⟩ : ∃ W, W = w.setRow g (cur.toArray.toList.take off ++ cs ++ cur.toArray.toList.drop (off + cs.length)).toArray := ⟨_, rfl⟩
   rw [← hW] at hrun hh
   unfold Oper.wp
   simp [execOp, ho, resolve, invoke, builtin, hd, hs, hrun, Result.andThen]
   exact hh
theorem mix_app {P : Program} {ops : Array Oper} {Q : Exit → Act → World → Prop} {S : World → Prop} {last i : Nat} {o : Oper} {sc : List (Bool × Nat)} {a : Act} {t e : TypeId} {size bytes : Nat} (E : ElemOf P t e size bytes) (w : World) (hop : ops[i]? = some o) (hw : Region.wanted o (yielded ops a.tmps) = true) (s x : Operand)
    (ho : o.op = .call { callee := .builtin .append, args := #[s, x], argTypes := #[t, t] })
    (base : Nat) (v : Value) (n : Nat) (xs : List Value) (hs : a.eval s = v) (hown : w.ownsRow base e size v n xs)
    {p : Nat → Prop} (X : Option Addr) (m c : Nat) (news : List Value) (hx : a.eval x = .slice X m c) (hr : Rd p w size X m news) (h1 : ∀ u ∈ news, u.oneCell' = true)
    (h63 : n + m ≤ maxLen) (hbytes : (n + m) * bytes ≤ 140737488355328) (hbase : base ≤ w.heap.size)
    (h : ∀ A' c' w', w'.ownsRow base e size (.slice A' (n + m) c') (n + m) (xs ++ news) → Fr (fun k => v.ownBlock = some k) w w' →
     (∀ k, (Value.slice A' (n + m) c').ownBlock = some k → v.ownBlock = some k ∨ w.heap.size ≤ k) → (i ≠ last → S w') ∧ wpMix P ops S last Q sc (a.put o.dst (.slice A' (n + m) c')) w') : wpMix P ops S last Q ((false, i) :: sc) a w := by
 refine ⟨o, hop, ?_⟩
 rw [if_pos hw]
 exact wp_app E w s x ho base v n xs hs hown X m c news hx hr h1 h63 hbytes hbase h
end Go.Proofs.YtfchcdbfalgdlaaGreatDoor
namespace Go.Proofs.YtfchcdbfalgdlaaGreatDoor
set_option linter.unusedVariables false
set_option linter.unusedSimpArgs false
set_option linter.constructorNameAsVariable false
open Go.RowKit
theorem nm {α : Sort _} (x : α) : ∃ y, y = x := ⟨x, rfl⟩
theorem wp_world {P : Program} {c : Code} {Q : Exit → Act → World → Prop} {a : Act} {w : World} (h : ∀ w', Hid (w' = w) → c.wp P Q a w') : c.wp P Q a w := h w (Lib.hid rfl)
theorem calls_world {P : Program} {f : FuncId} {ar : Array Value} {Q : Ending → World → Prop} {w : World} (h : ∀ w', Hid (w' = w) → Calls P f ar w' Q) : Calls P f ar w Q := h w (Lib.hid rfl)
theorem New.al2 {w w' : World} (h : New w w') (o o' : Obj) : New w ((w'.alloc o).alloc o') := (h.al o).al o'
end Go.Proofs.YtfchcdbfalgdlaaGreatDoor
