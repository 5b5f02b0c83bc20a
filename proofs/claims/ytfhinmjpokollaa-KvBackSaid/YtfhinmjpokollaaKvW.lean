/- A batch's bytes, read, are that batch: in plain words. No condition. -/
import Derived.Test.YtfhinmjpokollaaKvV
namespace Go.Proofs.Ytfhinmjpokollaa
set_option linter.unusedVariables false
set_option linter.unusedSimpArgs false
set_option linter.constructorNameAsVariable false
open Go.RowKit Go.Maps Go.Sort

theorem raw_app (xs rest : List Int) : (⟨xs ++ rest, 0⟩ : Rs).raw xs.length = (xs, ⟨rest, 0⟩) := by
  have hl : (⟨xs ++ rest, 0⟩ : Rs).left = xs.length + rest.length := by
    unfold Rs.left
    simp
  unfold Rs.raw
  rw [hl, if_neg (by omega)]
  simp
theorem num_app (size n : Nat) (rest : List Int) (h : n < 256 ^ size) : (⟨beL size n ++ rest, 0⟩ : Rs).num size = (n, ⟨rest, 0⟩) := by
  unfold Rs.num
  have := raw_app (beL size n) rest
  rw [beL_len] at this
  rw [this, valL_beL size n h]
theorem bytes_app (m most : Nat) (ys rest : List Int) (hm : ys.length = m) (h1 : m ≤ most) (h2 : m < 65536) : (⟨beL 2 m ++ (ys ++ rest), 0⟩ : Rs).bytes most = (ys, ⟨rest, 0⟩) := by
  have hl : (⟨beL 2 m ++ (ys ++ rest), 0⟩ : Rs).left = 2 + m + rest.length := by
    unfold Rs.left
    simp [beL_len, hm]
    omega
  have htk : (beL 2 m ++ (ys ++ rest)).take 2 = beL 2 m := by
    have := List.take_left (l₁ := beL 2 m) (l₂ := ys ++ rest)
    rwa [beL_len] at this
  unfold Rs.bytes
  rw [hl, if_neg (by omega)]
  dsimp only
  rw [htk, valL_beL 2 m (by omega), if_neg (by omega)]
  have h3 := raw_app (beL 2 m) (ys ++ rest)
  rw [beL_len] at h3
  rw [h3]
  dsimp only
  have h4 := raw_app ys rest
  rwa [hm] at h4
theorem flag_app (b : Bool) (rest : List Int) : (⟨[if b then 1 else 0] ++ rest, 0⟩ : Rs).flag = (b, ⟨rest, 0⟩) := by
  unfold Rs.flag Rs.num Rs.raw Rs.left
  cases b <;> simp [valL]
theorem step_app_c {c : Ch} (hk : c.k.xs.length = c.k.n) (hv : c.v.xs.length = c.v.n) (hok : chOk c = true) (rest : List Int) : prsStep ⟨chB c ++ rest, 0⟩ = (pcOf c, ⟨rest, 0⟩) := by
  obtain ⟨⟨kA, kn, kc, ks⟩, ⟨vA, vn, vc, vs⟩, d⟩ := c
  dsimp only at hk hv
  simp only [chOk, Bool.and_eq_true, decide_eq_true_eq, Bool.not_eq_true', Bool.and_eq_false_iff, decide_eq_false_iff_not] at hok
  obtain ⟨⟨⟨h1, h2⟩, h3⟩, h4⟩ := hok
  unfold prsStep chB pcOf
  dsimp only
  cases d
  · have e : [if !false then (1 : Int) else 0] ++ beL 2 kn ++ ks ++ (if false = true then [] else beL 2 vn ++ vs) ++ rest = [if !false then (1 : Int) else 0] ++ (beL 2 kn ++ (ks ++ (beL 2 vn ++ (vs ++ rest)))) := by simp
    rw [e, flag_app]
    dsimp only
    rw [bytes_app kn 16 ks _ hk h2 (by omega), bytes_app vn 16384 vs rest hv h3 (by omega)]
    rfl
  · have hvn : vn = 0 := by
      rcases h4 with h4 | h4
      · cases h4
      · omega
    have hvs : vs = [] := List.eq_nil_of_length_eq_zero (by rw [hv, hvn])
    have e : [if !true then (1 : Int) else 0] ++ beL 2 kn ++ ks ++ (if true = true then [] else beL 2 vn ++ vs) ++ rest = [if !true then (1 : Int) else 0] ++ (beL 2 kn ++ (ks ++ rest)) := by simp
    rw [e, flag_app]
    dsimp only
    rw [bytes_app kn 16 ks _ hk h2 (by omega), hvs]
    rfl
/-- The lengths of changes are those of their bytes. -/
def LenOk (L : List Ch) : Prop := ∀ c ∈ L, c.k.xs.length = c.k.n ∧ c.v.xs.length = c.v.n
theorem RTb.lens {w : World} {A : Option Addr} {n : Nat} {L : List Ch} (h : RTb w A n L) : LenOk L := fun c hc => ⟨(h.el c hc).k.len, (h.el c hc).v.len⟩
theorem prs_app (L : List Ch) (hl : LenOk L) (hok : ∀ c ∈ L, chOk c = true) (out : List PC) (rest : List Int) : prs L.length ⟨L.flatMap chB ++ rest, 0⟩ out = (out ++ L.map pcOf, ⟨rest, 0⟩) := by
  induction L generalizing out with
  | nil => simp [prs]
  | cons c L ih =>
    have hc := hl c (List.mem_cons_self ..)
    have hoc := hok c (List.mem_cons_self ..)
    rw [List.length_cons]
    unfold prs
    rw [List.flatMap_cons, List.append_assoc, step_app_c hc.1 hc.2 hoc]
    have hne : (pcOf c).k ≠ [] := by
      intro e
      have h1 : c.k.xs = [] := e
      have h2 := hc.1
      rw [h1] at h2
      simp only [chOk, Bool.and_eq_true, decide_eq_true_eq] at hoc
      simp at h2
      omega
    rw [if_neg hne]
    dsimp only
    rw [ih (fun c hc => hl c (List.mem_cons_of_mem _ hc)) (fun c hc => hok c (List.mem_cons_of_mem _ hc))]
    simp
theorem pcOk_len {c : Ch} (hk : c.k.xs.length = c.k.n) (hv : c.v.xs.length = c.v.n) : pcOk (pcOf c) = chOk c := by
  unfold pcOk chOk pcOf
  simp only [hk, hv]
theorem pcsOk_len {L : List Ch} (h : LenOk L) : pcsOk (L.map pcOf) = chsOk L := by
  unfold pcsOk chsOk
  have hlen : (L.map pcOf).length = L.length := by simp
  have e : (L.map pcOf).all pcOk = L.all chOk := by
    clear hlen
    induction L with
    | nil => rfl
    | cons c L ih => rw [List.map_cons, List.all_cons, List.all_cons, pcOk_len (h c (List.mem_cons_self ..)).1 (h c (List.mem_cons_self ..)).2, ih fun c hc => h c (List.mem_cons_of_mem _ hc)]
  rw [hlen, e]
theorem chsOk_all {L : List Ch} (h : chsOk L = true) : ∀ c ∈ L, chOk c = true := by
  unfold chsOk at h
  simp only [Bool.and_eq_true] at h
  exact List.all_eq_true.1 h.2
/-- What is put is read again. -/
theorem parse_put {L : List Ch} (hl : LenOk L) (hok : chsOk L = true) : parseB (putB L) = some (L.map pcOf) := by
  have hsp := chsOk_spec hok
  unfold parseB putB
  have h1 := num_app 2 L.length (L.flatMap chB) (by omega)
  rw [h1]
  dsimp only
  have h2 := prs_app L hl (chsOk_all hok) [] []
  rw [List.append_nil, List.nil_append] at h2
  rw [h2]
  dsimp only
  rw [if_pos ⟨rfl, by rw [pcsOk_len hl]; exact hok⟩]
/-- What hangs on the plain words alone. -/
theorem chB_pc {c d : Ch} (hc : c.k.xs.length = c.k.n ∧ c.v.xs.length = c.v.n) (hd : d.k.xs.length = d.k.n ∧ d.v.xs.length = d.v.n) (h : pcOf c = pcOf d) : chB c = chB d := by
  unfold pcOf at h
  injection h with h1 h2 h3
  unfold chB
  rw [← hc.1, ← hc.2, ← hd.1, ← hd.2, h1, h2, h3]
theorem putB_pc : ∀ {L M : List Ch}, LenOk L → LenOk M → L.map pcOf = M.map pcOf → putB L = putB M := by
  have key : ∀ {L M : List Ch}, LenOk L → LenOk M → L.map pcOf = M.map pcOf → L.flatMap chB = M.flatMap chB := by
    intro L
    induction L with
    | nil => intro M _ _ h; cases M with
      | nil => rfl
      | cons d M => simp at h
    | cons c L ih =>
      intro M hL hM h
      cases M with
      | nil => simp at h
      | cons d M =>
        rw [List.map_cons, List.map_cons] at h
        injection h with h1 h2
        rw [List.flatMap_cons, List.flatMap_cons, chB_pc (hL c (List.mem_cons_self ..)) (hM d (List.mem_cons_self ..)) h1, ih (fun c hc => hL c (List.mem_cons_of_mem _ hc)) (fun c hc => hM c (List.mem_cons_of_mem _ hc)) h2]
  intro L M hL hM h
  unfold putB
  have hl : L.length = M.length := by have := congrArg List.length h; simpa using this
  rw [hl, key hL hM h]
theorem doC_pc {T : CT} {c d : Ch} (h : pcOf c = pcOf d) : doC T c = doC T d := by
  unfold pcOf at h
  injection h with h1 h2 h3
  unfold doC
  rw [h1, h2, h3]
theorem doCs_pc : ∀ {L M : List Ch} {T : CT}, L.map pcOf = M.map pcOf → doCs T L = doCs T M := by
  intro L
  induction L with
  | nil => intro M T h; cases M with
    | nil => rfl
    | cons d M => simp at h
  | cons c L ih =>
    intro M T h
    cases M with
    | nil => simp at h
    | cons d M =>
      rw [List.map_cons, List.map_cons] at h
      injection h with h1 h2
      unfold doCs
      rw [List.foldl_cons, List.foldl_cons, doC_pc h1]
      exact ih h2
end Go.Proofs.Ytfhinmjpokollaa
