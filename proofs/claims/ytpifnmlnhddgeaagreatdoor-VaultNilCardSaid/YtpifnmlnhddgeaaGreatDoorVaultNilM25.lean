/- Texts of one proof, one behind the other: LkQ, LkR. No condition but each one's own. -/
import Derived.Test.YtpifnmlnhddgeaaGreatDoorVaultNilM23
import Derived.Test.YtpifnmlnhddgeaaGreatDoorVaultNilM24
namespace Go.Proofs.YtpifnmlnhddgeaaGreatDoor
set_option linter.unusedVariables false
set_option linter.unusedSimpArgs false
set_option linter.constructorNameAsVariable false
open Go.RowKit Go.Sort
def plc (l0 : LG) (x : Nat) : Int := ((l0.first + x : Nat) : Int)
theorem plc_inj {l0 : LG} {x y : Nat} (h : plc l0 x = plc l0 y) : x = y := by unfold plc at h; omega
def sureC (p : DP) (a : Int) : List Int := (p.sure a).getD sec0
theorem get_clean {p : DP} {a : Int} (h : p.fresh a = none) : p.get a = sureC p a := by unfold DP.get sureC; rw [h]
theorem sct_plc {p : DP} {l0 : LG} {K : List (List Int)} {i : Nat} (h : l0.first + ((chain l0 K).used + i) < p.size) : sct p (chain l0 K) i = p.get (plc l0 ((chain l0 K).used + i)) := by
 unfold sct plc DP.rget DP.within
 rw [(chain_same l0 K).1, Nat.add_assoc, if_pos (decide_eq_true (by omega))]
structure TK (l0 : LG) (K : List (List Int)) (b : List Int) (m : Nat) (T : Nat → Option (List Int)) : Prop where
 recs : ∀ j (hj : j < K.length) i, i < secN K[j].length → T ((chain l0 (K.take j)).used + i) = some ((chain l0 (K.take j)).sec K[j] i)
 part : ∀ i, i < m → T ((chain l0 K).used + i) = some ((chain l0 K).sec b i)
 rest : ∀ x, (chain l0 K).used + m ≤ x → T x = none
structure Inv (p : DP) (l0 : LG) (K : List (List Int)) (su : Nat) (b : List Int) (m : Nat) (T : Nat → Option (List Int)) : Prop where
 pok : p.Ok
 lok : l0.Ok p.size
 z : l0.used = 0
 g0 : l0.gen ≠ 0
 good : ∀ x ∈ K, RecOk x
 room : (chain l0 K).used ≤ l0.size
 part : m = 0 ∨ (RecOk b ∧ m ≤ secN b.length ∧ (chain l0 K).used + secN b.length ≤ l0.size)
 sul : su ≤ K.length
 tk : TK l0 K b m T
 fresh : ∀ x : Nat, x < l0.size → p.fresh (plc l0 x) = none ∨ (T x ≠ none ∧ p.fresh (plc l0 x) = T x)
 sure : ∀ x : Nat, x < l0.size → T x = some (sureC p (plc l0 x)) ∨ NoGen l0.gen (sureC p (plc l0 x))
 safe : ∀ j (hj : j < K.length), j < su → ∀ i, i < secN K[j].length → sureC p (plc l0 ((chain l0 (K.take j)).used + i)) = (chain l0 (K.take j)).sec K[j] i
 now : ∀ x, x < l0.size → ∀ S, T x = some S → p.get (plc l0 x) = S
def updN (T : Nat → Option (List Int)) (y : Nat) (S : List Int) : Nat → Option (List Int) := fun x => if x = y then some S else T x
section
variable {p : DP} {l0 : LG} {K : List (List Int)} {su : Nat} {b : List Int} {m : Nat} {T : Nat → Option (List Int)}
theorem chain_lt {j : Nat} (hj : j < K.length) {i : Nat} (hi : i < secN K[j].length) : (chain l0 (K.take j)).used + i < (chain l0 K).used := by
 have h1 := chain_used (l := l0) hj
 have h2 := chain_le (l := l0) (K := K) (j := j + 1) (k := K.length) hj (Nat.le_refl _)
 rw [chain_all] at h2
 omega
theorem Inv.bare (h : Inv p l0 K su b 0 T) (b' : List Int) : Inv p l0 K su b' 0 T :=
 ⟨h.pok, h.lok, h.z, h.g0, h.good, h.room, .inl rfl, h.sul, ⟨h.tk.recs, fun _ hi => absurd hi (by omega), h.tk.rest⟩, h.fresh, h.sure, h.safe, h.now⟩
theorem Inv.write (h : Inv p l0 K su b m T) (hb : RecOk b) (hm : m < secN b.length) (hf : (chain l0 K).used + secN b.length ≤ l0.size) :
    Inv (p.write (plc l0 ((chain l0 K).used + m)) ((chain l0 K).sec b m)) l0 K su b (m + 1) (updN T ((chain l0 K).used + m) ((chain l0 K).sec b m)) := by
 have hin : 0 ≤ plc l0 ((chain l0 K).used + m) ∧ plc l0 ((chain l0 K).used + m) < p.size := by
  have := h.lok.fit
  unfold plc
  omega
 refine ⟨h.pok.write hin (LG.sec_ok _ hb.2 _), h.lok, h.z, h.g0, h.good, h.room, .inr ⟨hb, hm, hf⟩, h.sul, ⟨?_, ?_, ?_⟩, ?_, ?_, h.safe, ?_⟩
 · intro j hj i hi
   have := chain_lt (l0 := l0) hj hi
   unfold updN
   rw [if_neg (by omega)]
   exact h.tk.recs j hj i hi
 · intro i hi
   unfold updN
   by_cases e : i = m
   · subst e; rw [if_pos rfl]
   · rw [if_neg (by omega)]
     exact h.tk.part i (by omega)
 · intro x hx
   unfold updN
   rw [if_neg (by omega)]
   exact h.tk.rest x (by omega)
 · intro x hx
   show upd p.fresh _ _ _ = none ∨ _ ∧ upd p.fresh _ _ _ = _
   unfold updN upd
   by_cases e : x = (chain l0 K).used + m
   · subst e
     rw [if_pos rfl, if_pos rfl]
     exact .inr ⟨by simp, rfl⟩
   · rw [if_neg (fun e2 => e (plc_inj e2)), if_neg e]
     exact h.fresh x hx
 · intro x hx
   show _ = some (sureC p _) ∨ NoGen _ (sureC p _)
   unfold updN
   by_cases e : x = (chain l0 K).used + m
   · subst e
     rcases h.sure _ hx with h1 | h1
     · rw [h.tk.rest _ (Nat.le_refl _)] at h1
       cases h1
     · exact .inr h1
   · rw [if_neg e]
     exact h.sure x hx
 · intro x hx S hS
   rw [get_write]
   unfold updN at hS
   by_cases e : x = (chain l0 K).used + m
   · subst e
     rw [if_pos rfl] at hS
     rw [if_pos rfl]
     injection hS
   · rw [if_neg e] at hS
     rw [if_neg (fun e2 => e (plc_inj e2))]
     exact h.now x hx S hS
theorem Inv.fall (h : Inv p l0 K su b m T) : Inv p.fall l0 K su b m T := ⟨h.pok.fall, h.lok, h.z, h.g0, h.good, h.room, h.part, h.sul, h.tk, h.fresh, h.sure, h.safe, h.now⟩
theorem Inv.sync (h : Inv p l0 K su b m T) : Inv p.sync l0 K K.length b m T := by
 have hs : ∀ a, sureC p.sync a = p.get a := fun a => by
  unfold sureC DP.sync DP.get
  cases hf : p.fresh a <;> simp [hf]
 refine ⟨h.pok.sync, h.lok, h.z, h.g0, h.good, h.room, h.part, Nat.le_refl _, h.tk, fun x hx => .inl rfl, fun x hx => ?_, fun j hj _ i hi => ?_, fun x hx S hS => ?_⟩
 · rw [hs]
   rcases h.fresh x hx with h1 | ⟨h1, h2⟩
   · rw [get_clean h1]
     exact h.sure x hx
   · cases hT : T x with
     | none => exact absurd hT h1
     | some S => rw [h.now x hx S hT]; exact .inl rfl
 · rw [hs]
   have h1 := chain_lt (l0 := l0) hj hi
   exact h.now _ (by have := h.room; omega) _ (h.tk.recs j hj i hi)
 · rw [get_sync]
   exact h.now x hx S hS
theorem Inv.done (h : Inv p l0 K su b (secN b.length) T) (hb : RecOk b) (hf : (chain l0 K).used + secN b.length ≤ l0.size) : Inv p l0 (K ++ [b]) su [] 0 T := by
 have hu : (chain l0 (K ++ [b])).used = (chain l0 K).used + secN b.length := by rw [chain_snoc]; rfl
 have ht : ∀ j, j < K.length → (K ++ [b]).take j = K.take j := fun j hj => List.take_append_of_le_length (by omega)
 refine ⟨h.pok, h.lok, h.z, h.g0, fun x hx => ?_, by rw [hu]; exact hf, .inl rfl, by rw [List.length_append]; have := h.sul; omega, ⟨fun j hj i hi => ?_, fun i hi => absurd hi (by omega), fun x hx => h.tk.rest x (by rw [hu] at hx; omega)⟩, h.fresh, h.sure, fun j hj hs i hi => ?_, h.now⟩
 · rcases List.mem_append.1 hx with hx | hx
   · exact h.good x hx
   · rw [List.mem_singleton] at hx; rw [hx]; exact hb
 · rw [List.length_append, List.length_singleton] at hj
   by_cases e : j < K.length
   · rw [ht j e, List.getElem_append_left e]
     rw [List.getElem_append_left e] at hi
     exact h.tk.recs j e i hi
   · obtain rfl : j = K.length := by omega
     have e1 : (K ++ [b])[K.length] = b := by simp
     have e2 : (K ++ [b]).take K.length = K := by simp
     rw [e1] at hi
     rw [e1, e2]
     exact h.tk.part i hi
 · have e : j < K.length := by have := h.sul; omega
   rw [ht j e, List.getElem_append_left e]
   rw [List.getElem_append_left e] at hi
   exact h.safe j e hs i hi
theorem Inv.writes (h : Inv p l0 K su b 0 T) (hb : RecOk b) (hf : (chain l0 K).used + secN b.length ≤ l0.size) : ∀ k, k ≤ secN b.length →
    ((writeN p (chain l0 K) b k).2 = 0 ∧ ∃ T', Inv (writeN p (chain l0 K) b k).1 l0 K su b k T') ∨ ((writeN p (chain l0 K) b k).2 ≠ 0 ∧ ∃ m T', m < secN b.length ∧ Inv (writeN p (chain l0 K) b k).1 l0 K su b m T')
 | 0, _ => .inl ⟨rfl, T, h⟩
 | k + 1, hk => by
  rcases Inv.writes h hb hf k (by omega) with ⟨h1, T', h2⟩ | ⟨h1, h2⟩
  · have e : writeN p (chain l0 K) b (k + 1) = ((writeN p (chain l0 K) b k).1.doWrite (plc l0 ((chain l0 K).used + k)) ((chain l0 K).sec b k), (writeN p (chain l0 K) b k).1.wcode (plc l0 ((chain l0 K).used + k))) := by
     simp only [writeN]
     rw [if_neg (by rw [h1]; simp), (chain_same l0 K).1]
     unfold plc
     rw [Nat.add_assoc]
    rw [e]
    have hw : (writeN p (chain l0 K) b k).1.within (plc l0 ((chain l0 K).used + k)) = true := decide_eq_true (by
     have := h2.lok.fit
     unfold plc
     omega)
    unfold DP.doWrite DP.wcode
    rw [if_pos hw, if_pos hw]
    by_cases hd : (writeN p (chain l0 K) b k).1.fuse = 0 ∨ (writeN p (chain l0 K) b k).1.down = true
    · rw [if_pos hd, if_pos hd]
      exact .inr ⟨by show (14 : Int) ≠ 0; decide, k, T', by omega, h2.fall⟩
    · rw [if_neg hd, if_neg hd]
      exact .inl ⟨rfl, _, h2.write hb (by omega) hf⟩
  · have e : writeN p (chain l0 K) b (k + 1) = writeN p (chain l0 K) b k := by
     simp only [writeN]
     rw [if_pos h1]
    rw [e]
    exact .inr ⟨h1, h2⟩
end
structure St (p : DP) (l l0 : LG) (K : List (List Int)) (su : Nat) : Prop where
 log : l = { chain l0 K with broken := l.broken }
 inv : ∃ b m T, (m = 0 ∨ m < secN b.length) ∧ (l.broken = false → m = 0) ∧ Inv p l0 K su b m T
section
variable {p : DP} {l l0 : LG} {K : List (List Int)} {su : Nat}
theorem St.app (h : St p l l0 K su) (h0 : l0.broken = false) {b : List Int} (hb : Byt b) :
    ((appL p l b).2.2 = 0 ∧ St (appL p l b).1 (appL p l b).2.1 l0 (K ++ [b]) su) ∨ ((appL p l b).2.2 ≠ 0 ∧ St (appL p l b).1 (appL p l b).2.1 l0 K su) := by
 unfold appL
 by_cases c1 : secN b.length = 0
 · rw [if_pos c1]; exact .inr ⟨by show (2 : Int) ≠ 0; decide, h⟩
 rw [if_neg c1]
 by_cases c2 : l.broken = true
 · rw [if_pos c2]; exact .inr ⟨by show (10 : Int) ≠ 0; decide, h⟩
 rw [if_neg c2]
 by_cases c3 : l.size - l.used < secN b.length
 · rw [if_pos c3]; exact .inr ⟨by show (8 : Int) ≠ 0; decide, h⟩
 rw [if_neg c3]
 have hbr : l.broken = false := by simpa using c2
 obtain ⟨b0, m, T, h1, h2, h3⟩ := h.inv
 obtain rfl := h2 hbr
 have hl : l = chain l0 K := by
  have e := h.log
  rw [hbr, ← h0, ← (chain_same l0 K).2.2.2] at e
  exact e
 have hsz := (chain_same l0 K).2.1
 rw [hl] at c3
 have hf : (chain l0 K).used + secN b.length ≤ l0.size := by have := h3.room; omega
 have hw := (h3.bare b).writes ⟨c1, hb⟩ hf (secN b.length) (Nat.le_refl _)
 simp only
 rw [hl]
 rcases hw with ⟨e1, T', hI⟩ | ⟨e1, m, T', hm, hI⟩
 · rw [if_neg (by rw [e1]; simp)]
   refine .inl ⟨rfl, ⟨?_, [], 0, T', .inl rfl, fun _ => rfl, hI.done ⟨c1, hb⟩ hf⟩⟩
   show (chain l0 K).step b = { chain l0 (K ++ [b]) with broken := ((chain l0 K).step b).broken }
   rw [chain_snoc]
 · rw [if_pos e1]
   exact .inr ⟨e1, ⟨rfl, b, m, T', .inr hm, (fun e => by cases e), hI⟩⟩
end
end Go.Proofs.YtpifnmlnhddgeaaGreatDoor
namespace Go.Proofs.YtpifnmlnhddgeaaGreatDoor
set_option linter.unusedVariables false
set_option linter.unusedSimpArgs false
set_option linter.constructorNameAsVariable false
open Go.RowKit Go.Sort
structure Clean (p : DP) : Prop where
 ok : p.Ok
 fresh : ∀ x, p.fresh x = none
 fuse : p.fuse = -1
 up : p.down = false
theorem Clean.cut {p : DP} (h : p.Ok) (keep : List Bool) : Clean (p.cut keep) := ⟨h.cut keep, fun _ => rfl, rfl, rfl⟩
structure Raw (q : DP) (l0 : LG) (K : List (List Int)) (su : Nat) (b : List Int) (m : Nat) (T : Nat → Option (List Int)) : Prop where
 cl : Clean q
 lok : l0.Ok q.size
 z : l0.used = 0
 g0 : l0.gen ≠ 0
 good : ∀ x ∈ K, RecOk x
 room : (chain l0 K).used ≤ l0.size
 part : m = 0 ∨ (b.length ≤ 65536 ∧ m < secN b.length ∧ (chain l0 K).used + secN b.length ≤ l0.size)
 sul : su ≤ K.length
 tk : TK l0 K b m T
 sure : ∀ x : Nat, x < l0.size → T x = some (q.get (plc l0 x)) ∨ NoGen l0.gen (q.get (plc l0 x))
 safe : ∀ j (hj : j < K.length), j < su → ∀ i, i < secN K[j].length → q.get (plc l0 ((chain l0 (K.take j)).used + i)) = (chain l0 (K.take j)).sec K[j] i
section
variable {p q : DP} {l0 : LG} {K : List (List Int)} {su : Nat} {b : List Int} {m : Nat} {T : Nat → Option (List Int)}
theorem Inv.cut (h : Inv p l0 K su b m T) (hm : m = 0 ∨ m < secN b.length) (keep : List Bool) : Raw (p.cut keep) l0 K su b m T := by
 have hg : ∀ x, (p.cut keep).get x = sureC p x ∨ (p.fresh x ≠ none ∧ p.fresh x = some ((p.cut keep).get x)) := fun x => by
  have e : (p.cut keep).get x = (cutS p keep p.order.length x).getD sec0 := rfl
  rw [e]
  rcases cut_or h.pok keep p.order.length (Nat.le_refl _) x with h1 | ⟨h1, h2⟩
  · rw [h1]; exact .inl rfl
  · rw [h2]
    cases hf : p.fresh x with
    | none => exact absurd hf h1
    | some s => exact .inr ⟨by simp, rfl⟩
 have hpart : m = 0 ∨ (b.length ≤ 65536 ∧ m < secN b.length ∧ (chain l0 K).used + secN b.length ≤ l0.size) := by
  rcases h.part with h1 | ⟨h1, h2, h3⟩
  · exact .inl h1
  · rcases hm with h4 | h4
    · exact .inl h4
    · exact .inr ⟨(secN_pos h1.1).2.1, h4, h3⟩
 refine ⟨Clean.cut h.pok keep, h.lok, h.z, h.g0, h.good, h.room, hpart, h.sul, h.tk, fun x hx => ?_, fun j hj hs i hi => ?_⟩
 · rcases hg (plc l0 x) with h1 | ⟨h1, h2⟩
   · rw [h1]; exact h.sure x hx
   · rcases h.fresh x hx with h3 | ⟨h3, h4⟩
     · exact absurd h3 h1
     · exact .inl (by rw [← h4, h2])
 · have h5 := chain_lt (l0 := l0) hj hi
   have hx : (chain l0 (K.take j)).used + i < l0.size := by have := h.room; omega
   rcases hg (plc l0 ((chain l0 (K.take j)).used + i)) with h1 | ⟨h1, h2⟩
   · rw [h1]; exact h.safe j hj hs i hi
   · rcases h.fresh _ hx with h3 | ⟨h3, h4⟩
     · exact absurd h3 h1
     · rw [h4, h.tk.recs j hj i hi] at h2
       injection h2 with h2
       exact h2.symm
def Whole (q : DP) (l0 : LG) (K : List (List Int)) (j : Nat) : Prop := ∀ (hj : j < K.length) i, i < secN K[j].length → q.get (plc l0 ((chain l0 (K.take j)).used + i)) = (chain l0 (K.take j)).sec K[j] i
theorem Raw.upto (h : Raw q l0 K su b m T) : ∀ n, n ≤ K.length → ∃ j, j ≤ n ∧ (∀ j', j' < j → Whole q l0 K j') ∧ (j = n ∨ ¬ Whole q l0 K j)
 | 0, _ => ⟨0, Nat.le_refl _, fun _ h => absurd h (by omega), .inl rfl⟩
 | n + 1, hn => by
  obtain ⟨j, h1, h2, h3⟩ := Raw.upto h n (by omega)
  rcases h3 with rfl | h3
  · by_cases hw : Whole q l0 K j
    · refine ⟨j + 1, Nat.le_refl _, fun j' hj' => ?_, .inl rfl⟩
      by_cases e : j' = j
      · rw [e]; exact hw
      · exact h2 j' (by omega)
    · exact ⟨j, by omega, h2, .inr hw⟩
  · exact ⟨j, by omega, h2, .inr h3⟩
theorem Raw.at_ (h : Raw q l0 K su b m T) : ∀ j, j ≤ K.length → (∀ j', j' < j → Whole q l0 K j') → runs q l0 j = (chain l0 (K.take j), K.take j)
 | 0, _, _ => by simp [runs, chain]
 | j + 1, hj, hw => by
  have ih := Raw.at_ h j (by omega) (fun j' hj' => hw j' (by omega))
  have hjl : j < K.length := by omega
  have hsz := (chain_same l0 (K.take j)).2.1
  have h1 := chain_le (l := l0) (K := K) (j := j + 1) (k := K.length) hj (Nat.le_refl _)
  rw [chain_all, chain_used hjl] at h1
  have hroom := h.room
  have hfit := h.lok.fit
  have hn := next_of_secs (p := q) h.cl.ok (l := chain l0 (K.take j)) (b := K[j]) (h.good _ (List.getElem_mem _)) (by omega) (fun i hi => by
   rw [sct_plc (by omega)]
   exact hw j (by omega) hjl i hi)
  rw [runs_some (b := K[j]) (by rw [ih]; rw [nextL_some hn.1, hn.2]), ih, chain_take hjl, List.take_succ_eq_append_getElem hjl]
theorem Raw.stop (h : Raw q l0 K su b m T) {j : Nat} (hj : j ≤ K.length) (hs : j = K.length ∨ ¬ Whole q l0 K j) : ¬ (chain l0 (K.take j)).Next q := by
 obtain ⟨e1, e2, e3, e4⟩ := chain_same l0 (K.take j)
 have hfit := h.lok.fit
 have hroom := h.room
 have hgen : (chain l0 (K.take j)).gen < 4294967296 := by rw [e3]; exact h.lok.gen
 have hle := chain_le (l := l0) (K := K) hj (Nat.le_refl _)
 rw [chain_all] at hle
 by_cases hr : (chain l0 (K.take j)).used < l0.size
 · have hs0 : sct q (chain l0 (K.take j)) 0 = q.get (plc l0 (chain l0 (K.take j)).used) := by rw [sct_plc (by omega), Nat.add_zero]
   rcases h.sure _ hr with h1 | h1
   · by_cases hjl : j < K.length
     · have hw : ¬ Whole q l0 K j := by rcases hs with h2 | h2; exact absurd h2 (by omega); exact h2
       have hT := h.tk.recs j hjl 0 (by have := (h.good _ (List.getElem_mem hjl)).1; omega)
       rw [Nat.add_zero, h1] at hT
       injection hT with hT
       have hsec : sct q (chain l0 (K.take j)) 0 = (chain l0 (K.take j)).sec K[j] 0 := by rw [hs0, hT]
       have h2 := secN_pos (h.good _ (List.getElem_mem hjl)).1
       obtain ⟨i, hi, hbad⟩ : ∃ i, i < secN K[j].length ∧ q.get (plc l0 ((chain l0 (K.take j)).used + i)) ≠ (chain l0 (K.take j)).sec K[j] i := by
        refine Classical.byContradiction fun hc => hw fun _ i hi => Classical.byContradiction fun hb => hc ⟨i, hi, hb⟩
       have hlt := chain_lt (l0 := l0) hjl hi
       refine no_next_i hgen h2.2.1 hsec hi ?_
       rw [sct_plc (by omega), e3]
       rcases h.sure ((chain l0 (K.take j)).used + i) (by omega) with h3 | h3
       · rw [h.tk.recs j hjl i hi] at h3
         injection h3 with h3
         exact absurd h3.symm hbad
       · exact h3
     · obtain rfl : j = K.length := by omega
       rw [chain_all] at *
       by_cases hm : m = 0
       · rw [h.tk.rest _ (by omega)] at h1
         cases h1
       · obtain ⟨h2, h3, h4⟩ := h.part.resolve_left hm
         have hT := h.tk.part 0 (by omega)
         rw [Nat.add_zero, h1] at hT
         injection hT with hT
         refine no_next_i hgen h2 (by rw [hs0, hT]) h3 ?_
         rw [sct_plc (by omega), e3]
         rcases h.sure ((chain l0 K).used + m) (by omega) with h5 | h5
         · rw [h.tk.rest _ (Nat.le_refl _)] at h5
           cases h5
         · exact h5
   · exact no_next_0 hgen (by rw [hs0, e3]; exact h1)
 · exact fun hn => hr (by have := hn.room; omega)
theorem Raw.run (h : Raw q l0 K su b m T) : ∃ j, su ≤ j ∧ j ≤ K.length ∧ runL q l0 = (chain l0 (K.take j), K.take j) ∧ ∀ j', j' < j → Whole q l0 K j' := by
 obtain ⟨j, h1, h2, h3⟩ := h.upto K.length (Nat.le_refl _)
 have hr := h.at_ j h1 h2
 have hz := chain_len (l := l0) h.good j h1
 have hroom := h.room
 have hle := chain_le (l := l0) (K := K) h1 (Nat.le_refl _)
 rw [chain_all] at hle
 refine ⟨j, ?_, h1, ?_, h2⟩
 · rcases h3 with rfl | h3
   · exact h.sul
   · refine Classical.byContradiction fun hc => h3 fun hj i hi => h.safe j hj (by omega) i hi
 · rw [runL_at (k := j) (by omega) (by rw [hr]; exact nextL_none (h.stop h1 h3)), hr]
theorem place_of {l0 : LG} (hz : l0.used = 0) : ∀ {K : List (List Int)} {x : Nat} , x < (chain l0 K).used → ∃ (j : Nat) (hj : j < K.length) (i : Nat), i < secN K[j].length ∧ x = (chain l0 (K.take j)).used + i := by
 intro K
 suffices h : ∀ n, n ≤ K.length → ∀ x, x < (chain l0 (K.take n)).used → ∃ (j : Nat) (hj : j < K.length) (i : Nat), i < secN K[j].length ∧ x = (chain l0 (K.take j)).used + i by
  intro x hx
  exact h K.length (Nat.le_refl _) x (by rw [chain_all]; exact hx)
 intro n
 induction n with
 | zero => intro _ x hx; simp [chain, hz] at hx
 | succ n ih =>
  intro hn x hx
  by_cases h : x < (chain l0 (K.take n)).used
  · exact ih (by omega) x h
  · rw [chain_used (by omega)] at hx
    exact ⟨n, by omega, x - (chain l0 (K.take n)).used, by omega, by omega⟩
structure Wiped (q q2 : DP) (l : LG) (k : Nat) : Prop where
 ok : q2.Ok
 size : q2.size = q.size
 fuse : q2.fuse = -1
 up : q2.down = false
 get : ∀ a : Int, q2.get a = q.get a ∨ ∃ i, i < k ∧ a = ((l.first + l.used + i : Nat) : Int)
 no : ∀ i, i < k → NoGen l.gen (q2.get ((l.first + l.used + i : Nat) : Int))
theorem noGen_0 {g : Nat} (h : g ≠ 0) : NoGen g sec0 := fun e => h (by rw [← e]; rfl)
theorem wipe_some (cl : Clean q) {l : LG} (hf : l.first + l.size ≤ q.size) (g0 : l.gen ≠ 0) : ∀ k, l.used + k ≤ l.size →
    (wipeN q l k).2.2 = 0 ∧ Wiped q (wipeN q l k).1 l k ∧ ((wipeN q l k).2.1 = false → (wipeN q l k).1 = q)
 | 0, _ => ⟨rfl, ⟨cl.ok, rfl, cl.fuse, cl.up, fun _ => .inl rfl, fun i hi => absurd hi (by omega)⟩, fun _ => rfl⟩
 | k + 1, hk => by
  obtain ⟨h1, h2, h3⟩ := wipe_some cl hf g0 k (by omega)
  have hw : (wipeN q l k).1.within ((l.first + l.used + k : Nat) : Int) = true := decide_eq_true (by rw [h2.size]; omega)
  by_cases hg : valL ((sct (wipeN q l k).1 l k).take 4) = l.gen
  · rw [wipeN_hit h1 hg]
    have hd : ¬ ((wipeN q l k).1.fuse = 0 ∨ (wipeN q l k).1.down = true) := by rw [h2.fuse, h2.up]; simp
    unfold DP.doWrite DP.wcode
    simp only [if_pos hw, if_neg hd, if_true]
    refine ⟨trivial, ⟨h2.ok.write (by rw [h2.size]; omega) sec0_ok, h2.size, ?_, h2.up, fun a => ?_, fun i hi => ?_⟩, fun e => by cases e⟩
    · show (if 0 < (wipeN q l k).1.fuse then _ else (wipeN q l k).1.fuse) = -1
      rw [h2.fuse]
      rfl
    · rw [get_write]
      by_cases e : a = ((l.first + l.used + k : Nat) : Int)
      · exact .inr ⟨k, by omega, e⟩
      · rw [if_neg e]
        rcases h2.get a with h4 | ⟨i, h4, h5⟩
        · exact .inl h4
        · exact .inr ⟨i, by omega, h5⟩
    · rw [get_write]
      by_cases e : i = k
      · rw [if_pos (by rw [e])]; exact noGen_0 g0
      · rw [if_neg (by omega)]; exact h2.no i (by omega)
  · rw [wipeN_skip h1 hg]
    refine ⟨h1, ⟨h2.ok, h2.size, h2.fuse, h2.up, fun a => ?_, fun i hi => ?_⟩, h3⟩
    · rcases h2.get a with h4 | ⟨i, h4, h5⟩
      · exact .inl h4
      · exact .inr ⟨i, by omega, h5⟩
    · by_cases e : i = k
      · subst e
        have : sct (wipeN q l i).1 l i = (wipeN q l i).1.get ((l.first + l.used + i : Nat) : Int) := if_pos hw
        rw [← this]
        exact hg
      · exact h2.no i (by omega)
theorem wipe_all (cl : Clean q) {l : LG} (hf : l.first + l.size ≤ q.size) (hu : l.used ≤ l.size) (g0 : l.gen ≠ 0) :
    (wipeL q l).2 = 0 ∧ Wiped q (wipeL q l).1 l (l.size - l.used) ∧ Clean (wipeL q l).1 := by
 obtain ⟨h1, h2, h3⟩ := wipe_some cl hf g0 (l.size - l.used) (by omega)
 unfold wipeL
 simp only
 rw [if_neg (by rw [h1]; simp)]
 by_cases hw : (wipeN q l (l.size - l.used)).2.1 = true
 · rw [if_pos hw]
   unfold DP.doSync DP.scode
   rw [if_neg (by rw [h2.up]; simp), if_neg (by rw [h2.up]; simp)]
   exact ⟨rfl, ⟨h2.ok.sync, h2.size, h2.fuse, h2.up, fun a => by rw [get_sync]; exact h2.get a, fun i hi => by rw [get_sync]; exact h2.no i hi⟩, ⟨h2.ok.sync, fun _ => rfl, h2.fuse, h2.up⟩⟩
 · rw [if_neg hw]
   refine ⟨rfl, h2, ?_⟩
   show Clean (wipeN q l (l.size - l.used)).1
   rw [h3 (by simpa using hw)]
   exact cl
theorem Raw.wipe (h : Raw q l0 K su b m T) {j : Nat} (hj : j ≤ K.length) (hw : ∀ j', j' < j → Whole q l0 K j') :
    (wipeL q (chain l0 (K.take j))).2 = 0 ∧ Clean (wipeL q (chain l0 (K.take j))).1 ∧ (wipeL q (chain l0 (K.take j))).1.size = q.size ∧
     Inv (wipeL q (chain l0 (K.take j))).1 l0 (K.take j) j [] 0 (fun x => if x < (chain l0 (K.take j)).used then T x else none) := by
 obtain ⟨e1, e2, e3, e4⟩ := chain_same l0 (K.take j)
 have hle := chain_le (l := l0) (K := K) hj (Nat.le_refl _)
 rw [chain_all] at hle
 have hroom := h.room
 obtain ⟨h1, h2, h3⟩ := wipe_all h.cl (l := chain l0 (K.take j)) (by rw [e1, e2]; exact h.lok.fit) (by omega) (by rw [e3]; exact h.g0)
 obtain ⟨q2, hq2⟩ : ∃ q2, q2 = (wipeL q (chain l0 (K.take j))).1 := ⟨_, rfl⟩
 rw [← hq2] at h2 h3 ⊢
 have hold : ∀ x, x < (chain l0 (K.take j)).used → q2.get (plc l0 x) = q.get (plc l0 x) := fun x hx => by
  rcases h2.get (plc l0 x) with h4 | ⟨i, h4, h5⟩
  · exact h4
  · rw [e1] at h5
    unfold plc at h5
    omega
 have hnew : ∀ x, x < l0.size → ¬ x < (chain l0 (K.take j)).used → NoGen l0.gen (q2.get (plc l0 x)) := fun x hx hu => by
  have h4 := h2.no (x - (chain l0 (K.take j)).used) (by rw [e2]; omega)
  rw [e1, e3, show l0.first + (chain l0 (K.take j)).used + (x - (chain l0 (K.take j)).used) = l0.first + x by omega] at h4
  exact h4
 have ht : ∀ i, i < j → (K.take j).take i = K.take i := fun i hi => by rw [List.take_take, Nat.min_eq_left (by omega)]
 have hl : (K.take j).length = j := by rw [List.length_take]; omega
 have hlt : ∀ i (hi : i < (K.take j).length) t, t < secN (K.take j)[i].length → (chain l0 (K.take i)).used + t < (chain l0 (K.take j)).used := fun i hi t hti => by
  have := chain_lt (l0 := l0) (K := K.take j) hi hti
  rwa [ht i (by omega)] at this
 have hgs : ∀ a, sureC q2 a = q2.get a := fun a => (get_clean (h3.fresh a)).symm
 refine ⟨h1, h3, h2.size, ⟨h3.ok, by rw [h2.size]; exact h.lok, h.z, h.g0, fun x hx => h.good x (List.mem_of_mem_take hx), by omega, .inl rfl, by omega, ⟨fun i hi t hti => ?_, fun i hi => absurd hi (by omega), fun x hx => if_neg (by rw [Nat.add_zero] at hx; omega)⟩, fun x hx => .inl (h3.fresh _), fun x hx => ?_, fun i hi _ t hti => ?_, fun x hx S hS => ?_⟩⟩
 · rw [ht i (by omega), if_pos (hlt i hi t hti), List.getElem_take]
   rw [List.getElem_take] at hti
   exact h.tk.recs i (by omega) t hti
 · rw [hgs]
   by_cases hu : x < (chain l0 (K.take j)).used
   · rw [if_pos hu, hold x hu]
     exact h.sure x hx
   · exact .inr (hnew x hx hu)
 · have h5 := hlt i hi t hti
   rw [hgs, ht i (by omega), hold _ h5, List.getElem_take]
   rw [List.getElem_take] at hti
   exact hw i (by omega) (by omega) t hti
 · split at hS
   · next hu =>
     rw [hold x hu]
     obtain ⟨i, hi, t, hti, e⟩ := place_of h.z hu
     rw [ht i (by omega)] at e
     rw [List.getElem_take] at hti
     have h6 := hw i (by omega) (by omega) t hti
     have h7 := h.tk.recs i (by omega) t hti
     rw [← e] at h6 h7
     rw [h7] at hS
     injection hS with hS
     rw [← hS, h6]
   · cases hS
end
end Go.Proofs.YtpifnmlnhddgeaaGreatDoor
