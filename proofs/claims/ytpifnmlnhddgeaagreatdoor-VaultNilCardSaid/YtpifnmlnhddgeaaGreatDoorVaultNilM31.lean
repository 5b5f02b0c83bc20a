/- Texts of one proof, one behind the other: SwT, SwU, SwM, SwO. No condition but each one's own. -/
import Derived.Test.YtpifnmlnhddgeaaGreatDoorVaultNilM30
namespace Go.Proofs.YtpifnmlnhddgeaaGreatDoor
set_option linter.unusedVariables false
set_option linter.unusedSimpArgs false
set_option linter.constructorNameAsVariable false
open Go.RowKit Go.Sort Go.Maps
section
variable {p q : DP} {l l0 : LG} {b : List Int} {a : Int}
theorem wcode_brk (h : p.wcode a ≠ 0) : brk (p.wcode a) = true := by
 unfold DP.wcode at h ⊢
 split
 · next h1 =>
   rw [if_pos h1] at h
   split
   · rfl
   · next h2 => rw [if_neg h2] at h; exact absurd rfl h
 · rfl
theorem wipeN_code (p : DP) (l : LG) : ∀ k, (wipeN p l k).2.2 ≠ 0 → brk (wipeN p l k).2.2 = true
 | 0, h => absurd rfl h
 | k + 1, h => by
  unfold wipeN at h ⊢
  simp only at h ⊢
  split
  · next h1 => exact wipeN_code p l k h1
  · next h1 =>
    rw [if_neg h1] at h
    split
    · next h2 => rw [if_pos h2] at h; exact wcode_brk h
    · next h2 => rw [if_neg h2] at h; exact absurd h h1
theorem wipe_code (h : (wipeL p l).2 ≠ 0) : brk (wipeL p l).2 = true := by
 unfold wipeL at h ⊢
 simp only at h ⊢
 split
 · next h1 => exact wipeN_code p l _ h1
 · next h1 =>
   rw [if_neg h1] at h
   split
   · next h2 =>
     rw [if_pos h2] at h
     show brk (DP.scode _) = true
     have h : (wipeN p l (l.size - l.used)).1.scode ≠ 0 := h
     unfold DP.scode at h ⊢
     split
     · rfl
     · next h3 => rw [if_neg h3] at h; exact absurd rfl h
   · next h2 => rw [if_neg h2] at h; exact absurd rfl h
theorem writeN_code (p : DP) (l : LG) (b : List Int) : ∀ k, (writeN p l b k).2 ≠ 0 → brk (writeN p l b k).2 = true
 | 0, h => absurd rfl h
 | k + 1, h => by
  unfold writeN at h ⊢
  simp only at h ⊢
  split
  · next h1 => exact writeN_code p l b k h1
  · next h1 => rw [if_neg h1] at h; exact wcode_brk h
theorem writeN_up (hd : p.down = false) (l : LG) (b : List Int) : ∀ k, (writeN p l b k).2 = 0 → (writeN p l b k).1.down = false
 | 0, _ => hd
 | k + 1, h => by
  unfold writeN at h ⊢
  simp only at h ⊢
  split
  · next h1 => rw [if_pos h1] at h; exact absurd h h1
  · next h1 =>
    rw [if_neg h1] at h
    exact doWrite_up h (writeN_up hd l b k (by simpa using h1))
theorem app_code (p : DP) (l : LG) (b : List Int) : ((appL p l b).2.2 = 0 ∧ (appL p l b).2.1 = l.step b ∧ (p.down = false → (appL p l b).1.down = false)) ∨ appL p l b = (p, l, 8) ∨ brk (appL p l b).2.2 = true := by
 unfold appL
 split
 · exact .inr (.inr rfl)
 · split
   · exact .inr (.inr rfl)
   · split
     · exact .inr (.inl rfl)
     · simp only
       split
       · next h => exact .inr (.inr (writeN_code p l b _ h))
       · next h => exact .inl ⟨rfl, rfl, fun hd => writeN_up hd l b _ (by simpa using h)⟩
theorem St.chain {K : List (List Int)} {su : Nat} (h : St p l l0 K su) (hb : l.broken = false) (h0 : l0.broken = false) : l = chain l0 K := by
 have e := h.log
 rw [hb, ← h0, ← (chain_same l0 K).2.2.2] at e
 exact e
theorem St.bare {K : List (List Int)} {su : Nat} (h : St p l l0 K su) (hb : l.broken = false) : ∃ T, Inv p l0 K su [] 0 T := by
 obtain ⟨b, m, T, -, h2, h3⟩ := h.inv
 obtain rfl := h2 hb
 exact ⟨T, h3.bare []⟩
theorem st_app_ops {K : List (List Int)} {su : Nat} (h : St p l l0 K su) (hb : Byt b) : Ops (Reg l0) p (appL p l b).1 := by
 obtain ⟨c, m, T, -, -, h3⟩ := h.inv
 have hl := h.log
 have e1 : l.size = l0.size := by rw [hl]; exact (chain_same l0 K).2.1
 have e2 : l.first = l0.first := by rw [hl]; exact (chain_same l0 K).1
 have e3 : l.used = (Go.Proofs.YtpifnmlnhddgeaaGreatDoor.chain l0 K).used := by rw [hl]
 refine (app_ops p l hb (by rw [e1, e3]; exact h3.room)).mono fun a ⟨x, hx, e⟩ => ⟨x, by rw [← e1]; exact hx, by rw [e]; unfold plc; rw [e2]⟩
theorem apps_law (h0 : l0.broken = false) : ∀ (bs : List (List Int)) (K1 : List (List Int)) (p : DP) (l : LG), (∀ b ∈ bs, RecOk b) → p.down = false → St p l l0 K1 0 → l.broken = false →
    Ops (Reg l0) p (apps p l bs).1 ∧ (((apps p l bs).2.2 = 0 ∧ (apps p l bs).1.down = false ∧ (apps p l bs).2.1 = chain l0 (K1 ++ bs) ∧ ∃ T, Inv (apps p l bs).1 l0 (K1 ++ bs) 0 [] 0 T) ∨
     ((apps p l bs).2.2 = 8 ∧ (apps p l bs).1.down = false ∧ ∃ K2 T, Inv (apps p l bs).1 l0 K2 0 [] 0 T) ∨ ((apps p l bs).2.2 ≠ 0 ∧ brk (apps p l bs).2.2 = true))
 | [], K1, p, l, _, hd, hS, hb => by
  refine ⟨.refl, .inl ⟨rfl, hd, ?_, ?_⟩⟩
  · rw [List.append_nil]; exact hS.chain hb h0
  · rw [List.append_nil]; exact hS.bare hb
 | b :: bs, K1, p, l, hr, hd, hS, hb => by
  have hrb := hr b (List.mem_cons_self ..)
  have hops := st_app_ops hS hrb.2
  have hst := hS.app h0 hrb.2
  rcases app_code p l b with ⟨c1, c2, c3⟩ | c | c
  · have e : apps p l (b :: bs) = apps (appL p l b).1 (appL p l b).2.1 bs := by
     show (if (appL p l b).2.2 ≠ 0 then appL p l b else _) = _
     rw [if_neg (by rw [c1]; simp)]
    rw [e]
    have hS' : St (appL p l b).1 (appL p l b).2.1 l0 (K1 ++ [b]) 0 := by
     rcases hst with ⟨-, h⟩ | ⟨h, -⟩
     · exact h
     · exact absurd c1 h
    have ih := apps_law h0 bs (K1 ++ [b]) _ _ (fun x hx => hr x (List.mem_cons_of_mem _ hx)) (c3 hd) hS' (by rw [c2]; exact hb)
    rw [List.append_assoc] at ih
    exact ⟨hops.trans ih.1, ih.2⟩
  · have e : apps p l (b :: bs) = (p, l, 8) := by
     show (if (appL p l b).2.2 ≠ 0 then appL p l b else _) = _
     rw [c, if_pos (show (8 : Int) ≠ 0 by decide)]
    rw [e]
    obtain ⟨T, hT⟩ := hS.bare hb
    exact ⟨.refl, .inr (.inl ⟨rfl, hd, K1, T, hT⟩)⟩
  · have hne : (appL p l b).2.2 ≠ 0 := fun e => by rw [e] at c; cases c
    have e : apps p l (b :: bs) = appL p l b := by
     show (if (appL p l b).2.2 ≠ 0 then appL p l b else _) = _
     rw [if_pos hne]
    rw [e]
    exact ⟨hops, .inr (.inr ⟨hne, c⟩)⟩
theorem doWrite_fail {s : List Int} (h : p.wcode a ≠ 0) : (p.doWrite a s).fresh = p.fresh ∧ (p.doWrite a s).sure = p.sure ∧ (p.Ok → (p.doWrite a s).Ok) := by
 unfold DP.wcode at h
 unfold DP.doWrite
 split
 · next h1 =>
   rw [if_pos h1] at h
   split
   · exact ⟨rfl, rfl, fun h => h.fall⟩
   · next h2 => rw [if_neg h2] at h; exact absurd rfl h
 · exact ⟨rfl, rfl, fun h => h⟩
theorem doWrite_get {s : List Int} (h : p.wcode a = 0) (x : Int) : (p.doWrite a s).get x = if x = a then s else p.get x := by
 unfold DP.wcode at h
 unfold DP.doWrite
 split
 · next h1 =>
   rw [if_pos h1] at h
   split
   · next h2 => rw [if_pos h2] at h; cases h
   · exact get_write ..
 · next h1 => rw [if_neg h1] at h; cases h
end
section
variable {s : SW} {K : List (List Int)}
theorem SOk.sweep (h : SOk s K) (hb : s.broken = false) (hg : s.gen + 1 < 4294967296) : ∃ K', SOk (swpS s).1 K' ∧ (swpS s).1.t = s.t ∧ (swpS s).1.p.size = s.p.size ∧
    (((swpS s).2 = 0 ∧ (swpS s).1.broken = false ∧ (swpS s).1.gen = s.gen + 1) ∨ ((swpS s).2 ≠ 0 ∧ (swpS s).1.broken = brk (swpS s).2 ∧ (swpS s).1.gen = s.gen)) := by
 have hfit := hlf_fit (g := s.gen + 1) h.n4
 have hgne : s.gen ≠ 4294967295 := by omega
 obtain ⟨l0, hl0⟩ : ∃ l0, l0 = log0 s.p.size (s.gen + 1) := ⟨_, rfl⟩
 obtain ⟨r, hr⟩ : ∃ r, r = wipeL s.p l0 := ⟨_, rfl⟩
 have hop1 : Ops (Reg l0) s.p r.1 := by rw [hr]; exact wipe_ops _ _ (by rw [hl0]; exact Nat.zero_le _)
 have bad : ∀ (q : DP) (c : Int), c ≠ 0 → q.Ok → q.size = s.p.size → (∀ a, ¬ Reg l0 a → Out s.p q a) → (brk c = false → q.down = false ∧ ∀ x : Nat, x < hlf s.p.size → q.fresh (plc l0 x) ≠ none → valL ((q.get (plc l0 x)).take 4) = s.gen + 1) →
     (swpS s) = ({ s with p := q, broken := brk c }, c) → ∃ K', SOk (swpS s).1 K' ∧ (swpS s).1.t = s.t ∧ (swpS s).1.p.size = s.p.size ∧
      (((swpS s).2 = 0 ∧ (swpS s).1.broken = false ∧ (swpS s).1.gen = s.gen + 1) ∨ ((swpS s).2 ≠ 0 ∧ (swpS s).1.broken = brk (swpS s).2 ∧ (swpS s).1.gen = s.gen)) := by
  intro q c hc hok hz ho hk e
  rw [e]
  refine ⟨K, h.away hok hz (by rw [← hl0]; exact ho) (brk c) (fun hbk => ⟨hb, (hk hbk).1, by rw [← hl0]; exact (hk hbk).2⟩), rfl, hz, .inr ⟨hc, rfl, rfl⟩⟩
 have hsw : ∀ x, anewS s = x → x.2.2 ≠ 0 → swpS s = ({ s with p := x.1, broken := brk x.2.2 }, x.2.2) := fun x e hx => by
  unfold swpS
  rw [if_neg (by rw [hb]; simp), if_neg hgne, e]
  simp only
  rw [if_pos hx]
 by_cases c1 : r.2 = 0
 case neg =>
  have e : anewS s = (r.1, l0, r.2) := by
   unfold anewS
   simp only
   rw [← hl0, ← hr, if_pos c1]
  obtain ⟨o1, o2⟩ := hop1.ok h.ok
  have hbk : brk r.2 = true := by rw [hr] at c1 ⊢; exact wipe_code c1
  exact bad r.1 r.2 c1 o1 o2 (fun a ha => hop1.out ha) (fun e => by rw [hbk] at e; cases e) (hsw _ e c1)
 obtain ⟨d1, d2⟩ : r.1.down = false ∧ Inv r.1 l0 [] 0 [] 0 (fun _ => none) := by
  rw [hr, hl0]
  refine wipe_inv h.ok (h.up hb) hfit.2.1 hg (by omega) (h.rest hb) ?_
  rw [hr, hl0] at c1
  exact c1
 obtain ⟨bs, hbs⟩ : ∃ bs, bs = (batP s.t).map putP := ⟨_, rfl⟩
 have hrec : ∀ b ∈ bs, RecOk b := by rw [hbs]; exact bat_rec h.tok
 have hl0b : l0.broken = false := by rw [hl0]; rfl
 have hap := apps_law hl0b bs [] r.1 l0 hrec d1 ⟨rfl, [], 0, _, .inl rfl, fun _ => rfl, d2⟩ hl0b
 obtain ⟨a, ha⟩ : ∃ a, a = apps r.1 l0 bs := ⟨_, rfl⟩
 rw [← ha, List.nil_append] at hap
 obtain ⟨hop2, hap⟩ := hap
 have hop := hop1.trans hop2
 obtain ⟨o1, o2⟩ := hop.ok h.ok
 have ean : anewS s = if a.2.2 ≠ 0 then a else if a.1.scode ≠ 0 then (a.1.doSync, a.2.1, a.1.scode) else ((procS a.1.doSync (s.gen + 1)).1, a.2.1, (procS a.1.doSync (s.gen + 1)).2) := by
  unfold anewS
  simp only
  rw [← hl0, ← hr, if_neg (by rw [c1]; simp), ← hbs, ← ha]
 rcases hap with ⟨c2, d3, d4, T, hT⟩ | ⟨c2, d3, K2, T, hT⟩ | ⟨c2, c3⟩
 ·
  have hsc : a.1.scode = 0 := by unfold DP.scode; rw [d3]; rfl
  have hds : a.1.doSync = a.1.sync := by unfold DP.doSync; rw [d3]; rfl
  rw [if_neg (by rw [c2]; simp), if_neg (by rw [hsc]; simp), hds] at ean
  have hI2 := hT.sync
  have hop3 : Ops (Reg l0) s.p a.1.sync := by rw [← hds]; exact hop.sync
  obtain ⟨q2, hq2⟩ : ∃ q2, q2 = a.1.sync := ⟨_, rfl⟩
  rw [← hq2] at ean hI2 hop3
  have hf2 : ∀ x, q2.fresh x = none := fun x => by rw [hq2]; rfl
  have hd2 : q2.down = false := by rw [hq2]; exact d3
  obtain ⟨p1, p2⟩ := hop3.ok h.ok
  by_cases c3 : q2.wcode (((s.gen + 1) % 2 : Nat) : Int) = 0
  case neg =>
   have e : anewS s = (q2.doWrite (((s.gen + 1) % 2 : Nat) : Int) (manB (s.gen + 1)), a.2.1, q2.wcode (((s.gen + 1) % 2 : Nat) : Int)) := by
    rw [ean]
    unfold procS
    rw [if_pos c3]
   obtain ⟨f1, f2, f3⟩ := doWrite_fail (s := manB (s.gen + 1)) c3
   refine bad _ _ c3 (f3 p1) (by rw [DP.doWrite_size]; exact p2) (fun x hx => ?_) (fun e => by rw [wcode_brk c3] at e; cases e) (hsw _ e c3)
   have h5 := hop3.out hx
   unfold Out sureC at h5 ⊢
   rw [f1, f2]
   exact h5
  · have hdn := doWrite_up (s := manB (s.gen + 1)) c3 hd2
    obtain ⟨q3, hq3⟩ : ∃ q3, q3 = (q2.doWrite (((s.gen + 1) % 2 : Nat) : Int) (manB (s.gen + 1))).doSync := ⟨_, rfl⟩
    have e : anewS s = (q3, a.2.1, 0) := by
     rw [ean]
     unfold procS
     rw [if_neg (by rw [c3]; simp), ← hq3]
     have : (q2.doWrite (((s.gen + 1) % 2 : Nat) : Int) (manB (s.gen + 1))).scode = 0 := by unfold DP.scode; rw [hdn]; rfl
     rw [this]
    have hop4 : Ops (fun x => x = (((s.gen + 1) % 2 : Nat) : Int)) q2 q3 := by rw [hq3]; exact (Ops.write (R := fun x => x = (((s.gen + 1) % 2 : Nat) : Int)) Ops.refl rfl (manB_ok (s.gen + 1))).sync
    obtain ⟨r1, r2⟩ := hop4.ok p1
    have hz : q3.size = s.p.size := r2.trans p2
    have hsy : q3 = (q2.doWrite (((s.gen + 1) % 2 : Nat) : Int) (manB (s.gen + 1))).sync := by rw [hq3]; unfold DP.doSync; rw [hdn]; rfl
    have hf3 : ∀ x, q3.fresh x = none := fun x => by rw [hsy]; rfl
    have hg3 : ∀ x, sureC q3 x = if x = (((s.gen + 1) % 2 : Nat) : Int) then manB (s.gen + 1) else q2.get x := fun x => by
     rw [← get_clean (hf3 x), hsy, get_sync, doWrite_get c3]
    have e2 : swpS s = ({ s with p := q3, l := a.2.1, gen := s.gen + 1 }, 0) := by
     unfold swpS
     rw [if_neg (by rw [hb]; simp), if_neg hgne, e]
     simp only
     rw [if_neg (by simp)]
    rw [e2]
    have hman : q2.get ((s.gen % 2 : Nat) : Int) = manB s.gen := by
     have h5 := out_keeps (hop3.out (by rw [hl0]; exact reg_man (a := s.gen % 2) (by omega))) h.man.1
     rw [get_clean h5.1, h5.2]
     exact h.man.2
    have hpar : (s.gen + 1 + 1) % 2 = s.gen % 2 := by omega
    refine ⟨bs, ⟨r1, by show 4 ≤ q3.size; rw [hz]; exact h.n4, by show 1 ≤ s.gen + 1; omega, hg, ⟨hf3 _, by rw [show sureC _ _ = _ from hg3 _, if_pos rfl]⟩, ⟨hf3 _, .inr ⟨s.gen, by show s.gen < s.gen + 1; omega, ?_⟩⟩, ?_, fun _ => ?_, ⟨[], 0, T, .inl rfl, fun _ => rfl, ?_⟩, fun _ x _ hx => absurd (hf3 _) hx, fun _ => ?_, ⟨sct_l19 s.t, by rw [hbs]; exact prsAll_bat h.tok, sct_perm s.t⟩, h.tok⟩, rfl, hz, .inl ⟨rfl, hb, rfl⟩⟩
    · show sureC q3 (((s.gen + 1 + 1) % 2 : Nat) : Int) = manB s.gen
      rw [hg3, hpar, if_neg (by omega), hman]
    · show a.2.1 = { chain (log0 q3.size (s.gen + 1)) bs with broken := a.2.1.broken }
      rw [hz, ← hl0, d4]
    · show a.2.1.broken = false
      rw [d4, (chain_same _ _).2.2.2, hl0b]
    · show Inv q3 (log0 q3.size (s.gen + 1)) bs bs.length [] 0 T
      rw [hz, ← hl0]
      refine hI2.out r1 r2 fun x hx => hop4.out fun e => ?_
      rw [hl0] at e
      have hn : 2 ≤ fst0 (s.gen + 1) s.p.size := hfit.2.2
      have e' : (((fst0 (s.gen + 1) s.p.size) + x : Nat) : Int) = (((s.gen + 1) % 2 : Nat) : Int) := e
      omega
    · show q3.down = false
      rw [hsy]
      exact hdn
 ·
  have e : anewS s = a := by rw [ean, if_pos (by rw [c2]; decide)]
  refine bad a.1 a.2.2 (by rw [c2]; decide) o1 o2 (fun x hx => hop.out hx) (fun _ => ⟨d3, fun x hx hf => ?_⟩) (hsw _ e (by rw [c2]; decide))
  have := hT.mark (x := x) (by rw [hl0]; exact hx) hf
  rw [this, hl0]
  rfl
 · have e : anewS s = a := by rw [ean, if_pos c2]
   exact bad a.1 a.2.2 c2 o1 o2 (fun x hx => hop.out hx) (fun e => by rw [c3] at e; cases e) (hsw _ e c2)
end
end Go.Proofs.YtpifnmlnhddgeaaGreatDoor
namespace Go.Proofs.YtpifnmlnhddgeaaGreatDoor
set_option linter.unusedVariables false
set_option linter.unusedSimpArgs false
set_option linter.constructorNameAsVariable false
open Go.RowKit Go.Sort Go.Maps
section
variable {s : SW} {K : List (List Int)} {L : List PC}
theorem SOk.st (h : SOk s K) (hb : s.broken = false) : St s.p s.l (log0 s.p.size s.gen) K K.length := by
 obtain ⟨b, m, T, h1, h2, h3⟩ := h.inv
 exact ⟨h.log, b, m, T, h1, fun _ => h2 hb, h3⟩
theorem SOk.app1 (h : SOk s K) (hb : s.broken = false) (hL : pcsOk L = true) (hB : ∀ c ∈ L, PcB c) (hlen : (putP L).length ≤ 65536) :
    ((appL s.p s.l (putP L)).2.2 = 0 ∧ (appL s.p s.l (putP L)).1.scode = 0 ∧ SOk { s with p := (appL s.p s.l (putP L)).1.doSync, l := (appL s.p s.l (putP L)).2.1, t := doPs s.t L } (K ++ [putP L])) ∨
    appL s.p s.l (putP L) = (s.p, s.l, 8) ∨
    ((appL s.p s.l (putP L)).2.2 ≠ 0 ∧ brk (appL s.p s.l (putP L)).2.2 = true ∧ SOk { s with p := (appL s.p s.l (putP L)).1, l := (appL s.p s.l (putP L)).2.1, broken := true } K) := by
 have hS := h.st hb
 have hrec : RecOk (putP L) := rec_of (by have := putP_two L; omega) hlen (putP_byt hB)
 have hops := st_app_ops hS hrec.2
 have hst := hS.app rfl hrec.2
 obtain ⟨a, ha⟩ : ∃ a, a = appL s.p s.l (putP L) := ⟨_, rfl⟩
 have hcode := app_code s.p s.l (putP L)
 rw [← ha] at hops hst hcode ⊢
 obtain ⟨o1, o2⟩ := hops.ok h.ok
 have m1 := out_keeps (hops.out (reg_man (a := s.gen % 2) (by omega))) h.man.1
 have m2 := out_keeps (hops.out (reg_man (a := (s.gen + 1) % 2) (by omega))) h.oth.1
 obtain ⟨t, t1, t2⟩ := h.tab
 rcases hcode with ⟨c1, c2, c3⟩ | c | c
 · have hd := c3 (h.up hb)
   have hsc : a.1.scode = 0 := by unfold DP.scode; rw [hd]; rfl
   have hds : a.1.doSync = a.1.sync := by unfold DP.doSync; rw [hd]; rfl
   refine .inl ⟨c1, hsc, ?_⟩
   have hS1 : St a.1 a.2.1 (log0 s.p.size s.gen) (K ++ [putP L]) K.length := by
    rcases hst with ⟨-, h1⟩ | ⟨h1, -⟩
    · exact h1
    · exact absurd c1 h1
   have hlb : a.2.1.broken = false := by rw [c2]; exact h.lb hb
   obtain ⟨T, hT⟩ := hS1.bare hlb
   have hI := hT.sync
   have hz : a.1.sync.size = s.p.size := o2
   rw [hds]
   refine ⟨o1.sync, by show 4 ≤ a.1.sync.size; rw [hz]; exact h.n4, h.g1, h.g2, ⟨rfl, ?_⟩, ⟨rfl, ?_⟩, ?_, fun _ => hlb, ⟨[], 0, T, .inl rfl, fun _ => rfl, ?_⟩, fun _ x _ hx => absurd rfl hx, fun _ => hd, ⟨doPs t L, prsAll_snoc K [] t1 hL, doPs_perm L t2⟩, h.tok.doPs (pcsOk_spec hL).2.2 hB⟩
   · show sureC a.1.sync ((s.gen % 2 : Nat) : Int) = manB s.gen
     rw [← get_clean (p := a.1.sync) rfl, get_sync, get_clean m1.1, m1.2]
     exact h.man.2
   · show sureC a.1.sync (((s.gen + 1) % 2 : Nat) : Int) = sec0 ∨ ∃ g, g < s.gen ∧ sureC a.1.sync (((s.gen + 1) % 2 : Nat) : Int) = manB g
     rw [← get_clean (p := a.1.sync) rfl, get_sync, get_clean m2.1, m2.2]
     exact h.oth.2
   · show a.2.1 = { chain (log0 a.1.sync.size s.gen) (K ++ [putP L]) with broken := a.2.1.broken }
     rw [hz]
     exact hS1.log
   · show Inv a.1.sync (log0 a.1.sync.size s.gen) _ _ [] 0 T
     rw [hz]
     exact hI
 · exact .inr (.inl c)
 · have hne : a.2.2 ≠ 0 := fun e => by rw [e] at c; cases c
   have hS1 : St a.1 a.2.1 (log0 s.p.size s.gen) K K.length := by
    rcases hst with ⟨h1, -⟩ | ⟨-, h1⟩
    · exact absurd h1 hne
    · exact h1
   obtain ⟨b, m, T, i1, -, i3⟩ := hS1.inv
   refine .inr (.inr ⟨hne, c, ⟨o1, by show 4 ≤ a.1.size; rw [o2]; exact h.n4, h.g1, h.g2, ⟨m1.1, m1.2.trans h.man.2⟩, ⟨m2.1, by rw [show sureC _ _ = _ from m2.2]; exact h.oth.2⟩, ?_, (fun e => by cases e), ⟨b, m, T, i1, (fun e => by cases e), ?_⟩, (fun e => by cases e), (fun e => by cases e), ⟨t, t1, t2⟩, h.tok⟩⟩)
   · show a.2.1 = { chain (log0 a.1.size s.gen) K with broken := a.2.1.broken }
     rw [o2]
     exact hS1.log
   · show Inv a.1 (log0 a.1.size s.gen) K K.length b m T
     rw [o2]
     exact i3
theorem brk_ne {c : Int} (h : brk c = true) : c ≠ 0 ∧ c ≠ 8 := by
 unfold brk at h
 have := of_decide_eq_true h
 exact ⟨this.1, this.2.1⟩
theorem SOk.commit (h : SOk s K) (hB : ∀ c ∈ L, PcB c) (hg : s.gen + 1 < 4294967296) : ∃ K', SOk (cmtS s L).1 K' ∧ (cmtS s L).1.p.size = s.p.size ∧ (cmtS s L).1.gen ≤ s.gen + 1 ∧
    (((cmtS s L).2 = 0 ∧ (cmtS s L).1.t = doPs s.t L ∧ pcsOk L = true) ∨ ((cmtS s L).2 ≠ 0 ∧ (cmtS s L).1.t = s.t)) := by
 by_cases c1 : pcsOk L = false
 · have e : cmtS s L = (s, 2) := by unfold cmtS; rw [if_pos c1]
   rw [e]
   exact ⟨K, h, rfl, Nat.le_succ _, .inr ⟨(by decide : (2 : Int) ≠ 0), rfl⟩⟩
 have hL : pcsOk L = true := by simpa using c1
 by_cases c2 : s.broken = true
 · have e : cmtS s L = (s, 10) := by unfold cmtS; rw [if_neg c1, if_pos c2]
   rw [e]
   exact ⟨K, h, rfl, Nat.le_succ _, .inr ⟨(by decide : (10 : Int) ≠ 0), rfl⟩⟩
 have hb : s.broken = false := by simpa using c2
 by_cases c3 : 65536 < (putP L).length
 · have e : cmtS s L = (s, 3) := by unfold cmtS; rw [if_neg c1, if_neg c2, if_pos c3]
   rw [e]
   exact ⟨K, h, rfl, Nat.le_succ _, .inr ⟨(by decide : (3 : Int) ≠ 0), rfl⟩⟩
 have hc : ∀ r, addS s (putP L) = r → cmtS s L = if r.2 ≠ 0 then ({ r.1 with broken := r.1.broken || brk r.2 }, r.2) else
     if r.1.p.scode ≠ 0 then ({ r.1 with p := r.1.p.doSync, broken := r.1.broken || brk r.1.p.scode }, r.1.p.scode) else ({ r.1 with p := r.1.p.doSync, t := doPs r.1.t L }, 0) := fun r e => by
  unfold cmtS
  rw [if_neg c1, if_neg c2, if_neg c3, e]
 have one : ∀ (s1 : SW) (K1 : List (List Int)), SOk s1 K1 → s1.broken = false → s1.p.size = s.p.size → s1.gen ≤ s.gen + 1 → s1.t = s.t → ∀ r : SW × Int, addS s (putP L) = r →
     r = ({ s1 with p := (appL s1.p s1.l (putP L)).1, l := (appL s1.p s1.l (putP L)).2.1 }, (appL s1.p s1.l (putP L)).2.2) → ((appL s1.p s1.l (putP L)).2.2 = 8 → appL s1.p s1.l (putP L) = (s1.p, s1.l, 8)) →
     ∃ K', SOk (cmtS s L).1 K' ∧ (cmtS s L).1.p.size = s.p.size ∧ (cmtS s L).1.gen ≤ s.gen + 1 ∧ (((cmtS s L).2 = 0 ∧ (cmtS s L).1.t = doPs s.t L ∧ pcsOk L = true) ∨ ((cmtS s L).2 ≠ 0 ∧ (cmtS s L).1.t = s.t)) := by
  intro s1 K1 h1 hb1 hz hg1 ht r e er _
  have ec := hc r e
  rw [er] at ec
  have hrec : RecOk (putP L) := rec_of (by have := putP_two L; omega) (by omega) (putP_byt hB)
  have hsz : (appL s1.p s1.l (putP L)).1.size = s1.p.size := ((st_app_ops (h1.st hb1) hrec.2).ok h1.ok).2
  rcases h1.app1 hb1 hL hB (by omega) with ⟨a1, a2, a3⟩ | a1 | ⟨a1, a2, a3⟩
  · simp only at ec
    rw [if_neg (by rw [a1]; simp), if_neg (by rw [a2]; simp)] at ec
    rw [ec]
    exact ⟨_, a3, by show (DP.doSync _).size = _; rw [DP.doSync_size, hsz, hz], hg1, .inl ⟨rfl, by show doPs s1.t L = _; rw [ht], hL⟩⟩
  · rw [a1] at ec
    simp only at ec
    rw [if_pos (by decide)] at ec
    rw [ec]
    refine ⟨K1, ?_, hz, hg1, .inr ⟨(by decide : (8 : Int) ≠ 0), ht⟩⟩
    have : ({ s1 with p := s1.p, l := s1.l, broken := s1.broken || brk 8 } : SW) = s1 := by rw [hb1]; obtain ⟨_, _, _, _, _⟩ := s1; dsimp only at hb1; rw [hb1]; rfl
    show SOk ({ s1 with p := s1.p, l := s1.l, broken := s1.broken || brk 8 } : SW) K1
    rw [this]
    exact h1
  · simp only at ec
    rw [if_pos a1] at ec
    rw [ec]
    refine ⟨K1, ?_, by show (appL s1.p s1.l (putP L)).1.size = _; rw [hsz, hz], hg1, .inr ⟨a1, ht⟩⟩
    show SOk ({ s1 with p := _, l := _, broken := s1.broken || brk (appL s1.p s1.l (putP L)).2.2 } : SW) K1
    rw [a2, Bool.or_true]
    exact a3
 by_cases c4 : (appL s.p s.l (putP L)).2.2 = 8
 · have e8 : appL s.p s.l (putP L) = (s.p, s.l, 8) := by
    rcases app_code s.p s.l (putP L) with ⟨x, -⟩ | x | x
    · rw [x] at c4; cases c4
    · exact x
    · exact absurd c4 (brk_ne x).2
   obtain ⟨K1, h1, ht, hz, hcs⟩ := h.sweep hb hg
   rcases hcs with ⟨d1, d2, d3⟩ | ⟨d1, d2, d3⟩
   · have e : addS s (putP L) = ({ (swpS s).1 with p := (appL (swpS s).1.p (swpS s).1.l (putP L)).1, l := (appL (swpS s).1.p (swpS s).1.l (putP L)).2.1 }, (appL (swpS s).1.p (swpS s).1.l (putP L)).2.2) := by
      unfold addS
      rw [e8]
      simp only
      rw [if_neg (by decide)]
      rw [show ({ s with p := s.p, l := s.l } : SW) = s from rfl, if_neg (by rw [d1]; simp)]
     refine one (swpS s).1 K1 h1 d2 hz (by rw [d3]; exact Nat.le_refl _) ht _ e rfl fun x => ?_
     rcases app_code (swpS s).1.p (swpS s).1.l (putP L) with ⟨y, -⟩ | y | y
     · rw [y] at x; cases x
     · exact y
     · exact absurd x (brk_ne y).2
   · have e : addS s (putP L) = swpS s := by
      unfold addS
      rw [e8]
      simp only
      rw [if_neg (by decide)]
      rw [show ({ s with p := s.p, l := s.l } : SW) = s from rfl, if_pos d1]
     have ec := hc _ e
     rw [if_pos d1] at ec
     rw [ec]
     refine ⟨K1, ?_, hz, by show (swpS s).1.gen ≤ _; rw [d3]; exact Nat.le_succ _, .inr ⟨d1, ht⟩⟩
     have : ({ (swpS s).1 with broken := (swpS s).1.broken || brk (swpS s).2 } : SW) = (swpS s).1 := by
      rw [d2, Bool.or_self, ← d2]
     show SOk ({ (swpS s).1 with broken := (swpS s).1.broken || brk (swpS s).2 } : SW) K1
     rw [this]
     exact h1
 · refine one s K h hb rfl (Nat.le_succ _) rfl _ ?_ rfl (fun x => absurd x c4)
   unfold addS
   rw [if_pos c4]
theorem cut_self {p : DP} (h1 : p.fresh = fun _ => none) (h2 : p.order = []) (h3 : Up p) (keep : List Bool) : p.cut keep = p := by
 obtain ⟨n, sure, fresh, order, fuse, down⟩ := p
 obtain ⟨u1, u2⟩ := h3
 dsimp only at h1 h2 u1 u2
 subst h1 h2 u1 u2
 rfl
theorem fmt_ok {p : DP} (hok : p.Ok) (hu : Up p) (h4 : 4 ≤ p.size) : SOk ⟨fmtS p, log0 p.size 1, [], 1, false⟩ [] ∧ (fmtS p).size = p.size ∧ ∀ keep, (fmtS p).cut keep = fmtS p := by
 have hw0 := hu.wcode (a := 0) (by omega) (by omega)
 have hu1 := hu.write 0 sec0
 have hw1 := hu1.wcode (a := 1) (by omega) (by rw [DP.doWrite_size]; omega)
 have hu2 := hu1.write 1 sec0
 obtain ⟨q, hq⟩ : ∃ q, q = ((p.doWrite 0 sec0).doWrite 1 sec0).doSync := ⟨_, rfl⟩
 have hqs : q = ((p.doWrite 0 sec0).doWrite 1 sec0).sync := by rw [hq]; unfold DP.doSync; rw [hu2.down]; rfl
 have huq : Up q := by rw [hq]; exact hu2.sync
 have hopq : Ops (fun _ => True) p q := by rw [hq]; exact ((Ops.refl.write trivial sec0_ok).write trivial sec0_ok).sync
 obtain ⟨o1, o2⟩ := hopq.ok hok
 have hfq : ∀ x, q.fresh x = none := fun x => by rw [hqs]; rfl
 have hgq : ∀ x : Int, q.get x = if x = 1 then sec0 else if x = 0 then sec0 else p.get x := fun x => by rw [hqs, get_sync, doWrite_get hw1, doWrite_get hw0]
 have hfit := hlf_fit (g := 1) h4
 obtain ⟨r, hr⟩ : ∃ r, r = wipeL q (log0 p.size 1) := ⟨_, rfl⟩
 obtain ⟨w1, w2, w3⟩ := huq.wipe (l := log0 p.size 1) (by rw [o2]; exact hfit.2.1) (Nat.zero_le _)
 have hopr : Ops (Reg (log0 p.size 1)) q (wipeL q (log0 p.size 1)).1 := wipe_ops _ _ (Nat.zero_le _)
 obtain ⟨-, hI⟩ := wipe_inv (p := q) (a := fst0 1 p.size) (sz := hlf p.size) (g := 1) o1 huq.down (by rw [o2]; exact hfit.2.1) (by omega) (by omega) (fun x _ hx => absurd (hfq _) hx) w1
 have hI : Inv (wipeL q (log0 p.size 1)).1 (log0 p.size 1) [] 0 [] 0 (fun _ => none) := hI
 rw [← hr] at w1 w2 w3 hopr hI
 obtain ⟨p1, p2⟩ := hopr.ok o1
 have hw := w2.wcode (a := ((1 % 2 : Nat) : Int)) (by omega) (by omega)
 have hsy : fmtS p = (r.1.doWrite ((1 % 2 : Nat) : Int) (manB 1)).sync := by
  unfold fmtS
  rw [← hq, ← hr]
  unfold procS
  rw [if_neg (by rw [hw]; simp)]
  show DP.doSync _ = _
  unfold DP.doSync
  rw [(w2.write _ _).down]
  rfl
 have hopf : Ops (fun x => x = ((1 % 2 : Nat) : Int)) r.1 (fmtS p) := by
  have : fmtS p = (r.1.doWrite ((1 % 2 : Nat) : Int) (manB 1)).doSync := by
   rw [hsy]
   unfold DP.doSync
   rw [(w2.write _ _).down]
   rfl
  rw [this]
  exact (Ops.write (R := fun x => x = ((1 % 2 : Nat) : Int)) Ops.refl rfl (manB_ok 1)).sync
 obtain ⟨r1, r2⟩ := hopf.ok p1
 have hz : (fmtS p).size = p.size := by rw [r2, p2, o2]
 have hff : (fmtS p).fresh = fun _ => none := by rw [hsy]; rfl
 have hgf : ∀ x, sureC (fmtS p) x = if x = ((1 % 2 : Nat) : Int) then manB 1 else r.1.get x := fun x => by
  rw [← get_clean (by rw [hff]), hsy, get_sync, doWrite_get hw]
 have hup : Up (fmtS p) := (fmt_up hu h4).1
 refine ⟨⟨r1, by show 4 ≤ (fmtS p).size; omega, Nat.le_refl _, by show (1 : Nat) < _; omega, ⟨by show (fmtS p).fresh _ = none; rw [hff], by show sureC (fmtS p) _ = _; rw [hgf, if_pos rfl]⟩, ⟨by show (fmtS p).fresh _ = none; rw [hff], .inl ?_⟩, ?_, fun _ => rfl, ⟨[], 0, fun _ => none, .inl rfl, fun _ => rfl, ?_⟩, fun _ x _ hx => absurd (by show (fmtS p).fresh _ = none; rw [hff]) hx, fun _ => hup.down, ⟨[], rfl, List.Perm.refl _⟩, TOk.nil⟩, hz, fun keep => cut_self hff (by rw [hsy]; rfl) hup keep⟩
 · show sureC (fmtS p) (((1 + 1) % 2 : Nat) : Int) = sec0
   rw [hgf, if_neg (by decide)]
   have h5 := out_keeps (hopr.out (reg_man (a := 0) (by omega))) (hfq _)
   have h6 : r.1.get ((0 : Nat) : Int) = q.get ((0 : Nat) : Int) := (hopr.out (reg_man (a := 0) (by omega))).get
   show r.1.get ((0 : Nat) : Int) = sec0
   rw [h6, hgq]
   rfl
 · show log0 p.size 1 = { chain (log0 (fmtS p).size 1) [] with broken := false }
   rw [hz]
   rfl
 · show Inv (fmtS p) (log0 (fmtS p).size 1) [] 0 [] 0 (fun _ => none)
   rw [hz]
   refine hI.out r1 (by rw [r2]) fun x hx => hopf.out fun e => ?_
   have hn : 2 ≤ fst0 1 p.size := hfit.2.2
   have e' : (((fst0 1 p.size) + x : Nat) : Int) = ((1 % 2 : Nat) : Int) := e
   omega
end
end Go.Proofs.YtpifnmlnhddgeaaGreatDoor
namespace Go.Proofs.YtpifnmlnhddgeaaGreatDoor
set_option linter.unusedVariables false
set_option linter.unusedSimpArgs false
set_option linter.constructorNameAsVariable false
open Go.RowKit Go.Sort Go.Maps
def Cls (M : Nat → Prop) (W w : World) (k : Nat) : Prop := W.heap.size ≤ k ∧ (M k ∨ IsT 245 w k ∨ IsT 420 w k ∨ IsT 116 w k ∨ IsT 3 w k)
def Kps (M : Nat → Prop) (W w w' : World) : Prop := Fr (Cls M W w) w w'
section
variable {M M' : Nat → Prop} {W w w' w'' : World}
theorem Kps.new (h : New w w') : Kps M W w w' := h.toFr _
theorem Kps.of {S : Nat → Prop} (hF : Fr S w w') (h : ∀ k, S k → Cls M W w k) : Kps M W w w' := hF.mono fun k _ => h k
theorem isT_back {t : TypeId} {S : Nat → Prop} {k : Nat} (hF : Fr S w w') (hk : k < w.heap.size) (hs : ¬ S k) (h : IsT t w' k) : IsT t w k := by
 obtain ⟨cs, fz, h⟩ := h
 exact ⟨cs, fz, (hF.block k hk hs).symm.trans h⟩
theorem Kps.tr (h : Kps M W w w') (k : Kps M W w' w'') : Kps M W w w'' := by
 refine h.trans' k (fun b hb hC => ?_)
 by_cases hs : Cls M W w b
 · exact hs
 · refine ⟨hC.1, ?_⟩
   rcases hC.2 with e | e | e | e | e
   · exact .inl e
   · exact .inr (.inl (isT_back h hb hs e))
   · exact .inr (.inr (.inl (isT_back h hb hs e)))
   · exact .inr (.inr (.inr (.inl (isT_back h hb hs e))))
   · exact .inr (.inr (.inr (.inr (isT_back h hb hs e))))
theorem Kps.mono (h : Kps M W w w') (hM : ∀ k, W.heap.size ≤ k → M k → M' k) : Kps M' W w w' := Fr.mono h fun k _ hC => ⟨hC.1, hC.2.imp (hM k hC.1) id⟩
theorem Kps.blk (h : Kps M W w w') {b t : Nat} {cs : Array Value} (hb : Blk w b t cs) (hM : ¬ M b) (h1 : t ≠ 245) (h2 : t ≠ 420) (h3 : t ≠ 116) (h4 : t ≠ 3) : Blk w' b t cs := by
 refine Blk.fr hb h (fun hC => ?_)
 rcases hC.2 with e | e | e | e | e
 · exact hM e
 · exact IsT.not_blk hb h1 e
 · exact IsT.not_blk hb h2 e
 · exact IsT.not_blk hb h3 e
 · exact IsT.not_blk hb h4 e
theorem Kps.nw (h : Kps M W w w') (hN : New W w) : New W w' := hN.fr h (fun _ hC => hC.1)
theorem isT_ne {t t' : TypeId} {k : Nat} (h : IsT t w k) (h' : IsT t' w k) : t = t' := by
 obtain ⟨cs, fz, h⟩ := h
 obtain ⟨cs', fz', h'⟩ := h'
 rw [h] at h'
 injection h' with h'
 injection h' with _ e _
theorem cls_not {t : TypeId} {k : Nat} (hM : ¬ M k) (h1 : 245 ≠ t) (h2 : 420 ≠ t) (h3 : 116 ≠ t) (h4 : 3 ≠ t) (h : IsT t w k) : ¬ Cls M W w k := fun hC => by
 rcases hC.2 with e | e | e | e | e
 · exact hM e
 · exact h1 (isT_ne e h)
 · exact h2 (isT_ne e h)
 · exact h3 (isT_ne e h)
 · exact h4 (isT_ne e h)
theorem cls_map {P : Program} {kt : TypeId} {b n : Nat} {f : Lit → Option Value} (h : MapAt w P kt b n f) (hM : ¬ M b) : ¬ Cls M W w b := fun hC => by
 rcases hC.2 with e | e | e | e | e
 · exact hM e
 all_goals exact IsT.not_map h e
theorem Kps.tb {X : Nat → Prop} {base g b m : Nat} {E : Tab} (h : Kps M W w w') (hT : TbIn X w base g b m E) (hM : ∀ k, M k → k ≠ b ∧ ¬ IsT 5 w k ∧ ¬ IsT 271 w k) : TbIn X w' base g b m E := by
 obtain ⟨f, hf, -⟩ := hT.map
 refine hT.fr h (fun hC => ?_) (fun hC => ?_) (fun k hC hx => ?_)
 · exact cls_not (fun hm => (hM _ hm).2.2 ⟨_, _, hT.blk⟩) (by decide) (by decide) (by decide) (by decide) ⟨_, _, hT.blk⟩ hC
 · exact cls_map hf (fun hm => (hM _ hm).1 rfl) hC
 · exact cls_not (fun hm => (hM _ hm).2.1 (hT.xs k hx).2) (by decide) (by decide) (by decide) (by decide) (hT.xs k hx).2 hC
theorem dk_cls {gd bs bf : Nat} {v : Value} {p : DP} (hD : Dk w W.heap.size gd bs bf v p) (h1 : M bs) (h2 : M bf) : ∀ k, DkOurs gd bs bf v k → Cls M W w k := fun k hk => ⟨(hD.ours k hk).1, by
 rcases hk with rfl | rfl | rfl | ho
 · exact .inr (.inr (.inr (.inl ⟨_, _, hD.blk⟩)))
 · exact .inl h1
 · exact .inl h2
 · exact .inr (.inr (.inr (.inr (own_isT' hD.own ho))))⟩
end
def Mps (bs bf bt k : Nat) : Prop := k = bs ∨ k = bf ∨ k = bt
structure StX (W w : World) (gs gd bs bf bt : Nat) (s : SW) (mm gl gt : Nat) (v : Value) (X : Nat → Prop) (m : Nat) (E : Tab) : Prop where
 blk : Blk w gs 245 #[.pointer (some ⟨gd, 0, none⟩), .pointer (some ⟨gl, 0, none⟩), .pointer (some ⟨gt, 0, none⟩), .int .u32 s.gen, .bool s.broken]
 dk : Dk w W.heap.size gd bs bf v s.p
 lg : Lg w gl gd s.l s.p.size
 tb : TbIn X w W.heap.size gt bt m E
 lo : W.heap.size ≤ gs ∧ W.heap.size ≤ gl
 ne : bt ≠ bs ∧ bt ≠ bf
 ct : cont E = s.t
 mm : m ≤ mm ∧ E.length ≤ mm
 gen : s.gen < 4294967296
 n4 : 4 ≤ s.p.size
def StIn (W w : World) (gs gd bs bf bt : Nat) (s : SW) (mm : Nat) : Prop := ∃ gl gt v X m E, StX W w gs gd bs bf bt s mm gl gt v X m E
section
variable {W w w' : World} {gs gd bs bf bt mm gl gt m : Nat} {s : SW} {v : Value} {X : Nat → Prop} {E : Tab}
theorem StX.new (h : StX W w gs gd bs bf bt s mm gl gt v X m E) (hN : New w w') : StX W w' gs gd bs bf bt s mm gl gt v X m E :=
 ⟨hN.blk h.blk, h.dk.new hN, h.lg.new hN, h.tb.new hN, h.lo, h.ne, h.ct, h.mm, h.gen, h.n4⟩
theorem StIn.new (h : StIn W w gs gd bs bf bt s mm) (hN : New w w') : StIn W w' gs gd bs bf bt s mm := by
 obtain ⟨gl, gt, v, X, m, E, h⟩ := h
 exact ⟨gl, gt, v, X, m, E, h.new hN⟩
theorem StX.c0 (h : StX W w gs gd bs bf bt s mm gl gt v X m E) : w.cell? ⟨gs, 0, none⟩ = some (.pointer (some ⟨gd, 0, none⟩)) := h.blk.cell 0
theorem StX.c1 (h : StX W w gs gd bs bf bt s mm gl gt v X m E) : w.cell? ⟨gs, 1, none⟩ = some (.pointer (some ⟨gl, 0, none⟩)) := h.blk.cell 1
theorem StX.c2 (h : StX W w gs gd bs bf bt s mm gl gt v X m E) : w.cell? ⟨gs, 2, none⟩ = some (.pointer (some ⟨gt, 0, none⟩)) := h.blk.cell 2
theorem StX.c3 (h : StX W w gs gd bs bf bt s mm gl gt v X m E) : w.cell? ⟨gs, 3, none⟩ = some (.int .u32 s.gen) := h.blk.cell 3
theorem StX.c4 (h : StX W w gs gd bs bf bt s mm gl gt v X m E) : w.cell? ⟨gs, 4, none⟩ = some (.bool s.broken) := h.blk.cell 4
theorem StX.mps (h : StX W w gs gd bs bf bt s mm gl gt v X m E) : ∀ k, Mps bs bf bt k → ∀ t, ¬ IsT t w k := fun k hk t => by
 obtain ⟨f, hf, -⟩ := h.tb.map
 rcases hk with rfl | rfl | rfl
 · exact IsT.not_map h.dk.ms
 · exact IsT.not_map h.dk.mw
 · exact IsT.not_map hf
theorem StX.disk (h : StX W w gs gd bs bf bt s mm gl gt v X m E) {S : Nat → Prop} {v' : Value} {q : DP} (hF : Fr S w w') (hS : ∀ k, S k → Cls (Mps bs bf bs) W w k ∧ k ≠ gs ∧ k ≠ gl) (hD : Dk w' W.heap.size gd bs bf v' q) (hz : q.size = s.p.size) :
    StX W w' gs gd bs bf bt { s with p := q } mm gl gt v' X m E ∧ Kps (Mps bs bf bt) W w w' := by
 have hK : Kps (Mps bs bf bs) W w w' := Kps.of hF fun k hk => (hS k hk).1
 refine ⟨⟨h.blk.fr hF (fun hs => (hS _ hs).2.1 rfl), hD, ?_, ?_, h.lo, h.ne, h.ct, h.mm, h.gen, by show 4 ≤ q.size; rw [hz]; exact h.n4⟩, hK.mono fun k _ hk => ?_⟩
 · show Lg w' gl gd s.l q.size
   rw [hz]
   exact h.lg.fr hF (fun hs => (hS _ hs).2.2 rfl)
 · refine Kps.tb hK h.tb (fun k hk => ?_)
   have hk' : Mps bs bf bt k := by rcases hk with e | e | e; exact .inl e; exact .inr (.inl e); exact .inl e
   refine ⟨?_, h.mps k hk' _, h.mps k hk' _⟩
   rintro rfl
   rcases hk with e | e | e
   · exact h.ne.1 e
   · exact h.ne.2 e
   · exact h.ne.1 e
 · rcases hk with e | e | e
   · exact .inl e
   · exact .inr (.inl e)
   · exact .inl e
theorem StX.dkfr (h : StX W w gs gd bs bf bt s mm gl gt v X m E) : ∀ k, DkOurs gd bs bf v k → Cls (Mps bs bf bs) W w k ∧ k ≠ gs ∧ k ≠ gl := fun k hk =>
 ⟨dk_cls h.dk (.inl rfl) (.inr (.inl rfl)) k hk, fun e => by subst e; exact dk_notBlk h.dk h.blk (fun e => Blk.ne_ h.blk h.dk.blk (by decide) e) (by decide) hk, fun e => by subst e; exact lg_apart h.dk h.lg hk⟩
end
end Go.Proofs.YtpifnmlnhddgeaaGreatDoor
namespace Go.Proofs.YtpifnmlnhddgeaaGreatDoor
set_option linter.unusedVariables false
set_option linter.unusedSimpArgs false
set_option linter.constructorNameAsVariable false
open Go.RowKit Go.Sort Go.Maps
def RowB (w : World) (A : Option Addr) (L : List (List Int)) : Prop := ∀ i l, L[i]? = some l → ∃ g o A' c', A = some ⟨g, o, none⟩ ∧ w.cell? ⟨g, o + i, none⟩ = some (.slice A' l.length c') ∧ Byt l ∧ Rd (fun _ => True) w 1 A' l.length (u8s l)
theorem Recs.rowB {B : Nat} {w : World} {A : Option Addr} {n c : Nat} {L : List (List Int)} (h : Recs B w (.slice A n c) L) (hn : n = L.length) : RowB w A L := by
 obtain ⟨vs, ho, he⟩ := h.row
 intro i l hl
 have hi := (List.getElem?_eq_some_iff.1 hl).1
 obtain ⟨g, o, hA, -, -, hc⟩ := (Rd.own ho (by rw [hn])).out (by omega) (by omega)
 obtain ⟨A', c', h1, h2, h3, h4, h5⟩ := he i l hl
 exact ⟨g, o, A', c', hA, hc i _ h1, h4, h5.imp (fun _ _ => trivial)⟩
theorem runs_le {p : DP} (hp : p.Ok) (l : LG) : ∀ k, ∀ b ∈ (runs p l k).2, b.length ≤ 65536
 | 0, b, hb => by cases hb
 | k + 1, b, hb => by
  cases hn : nextL p (runs p l k).1 with
  | none => rw [runs_none hn 1] at hb; exact runs_le hp l k b hb
  | some d =>
   rw [runs_some hn] at hb
   rcases List.mem_append.1 hb with h | h
   · exact runs_le hp l k b h
   · obtain rfl := List.mem_singleton.1 h
     obtain ⟨h1, rfl⟩ := nextL_eq hn
     rw [LG.body_len hp h1.pos]
     exact (secN_pos h1.pos).2.1
theorem prsAll_app : ∀ (K K' : List (List Int)) (T : CT), prsAll T (K ++ K') = (prsAll T K).bind fun t => prsAll t K'
 | [], _, _ => rfl
 | b :: K, K', T => by
  have e : ∀ X, prsAll T (b :: X) = match parseB b with | some L => prsAll (doPs T L) X | none => none := fun _ => rfl
  rw [List.cons_append, e, e]
  cases parseB b with
  | none => rfl
  | some L => exact prsAll_app K K' _
theorem prsAll_bad {K : List (List Int)} {T t : CT} {i : Nat} {l : List Int} (h : prsAll T (K.take i) = some t) (hl : K[i]? = some l) (hp : parseB l = none) : prsAll T K = none := by
 have e : K = K.take i ++ l :: K.drop (i + 1) := by
  have hi := (List.getElem?_eq_some_iff.1 hl)
  rw [← hi.2, List.getElem_cons_drop, List.take_append_drop]
 rw [e, prsAll_app, h]
 show prsAll t (l :: _) = none
 unfold prsAll
 rw [hp]
theorem prsAll_go {K : List (List Int)} {T t : CT} {i : Nat} {l : List Int} {L : List PC} (h : prsAll T (K.take i) = some t) (hl : K[i]? = some l) (hp : parseB l = some L) : prsAll T (K.take (i + 1)) = some (doPs t L) := by
 rw [List.take_add_one, hl, prsAll_app, h]
 show prsAll t [l] = _
 unfold prsAll
 rw [hp]
 rfl
theorem parse_ok {l : List Int} {L : List PC} (h : parseB l = some L) : pcsOk L = true := by
 unfold parseB at h
 split at h
 · next hc => injection h with h; rw [← h]; exact hc.2
 · cases h
theorem RTb.off {w : World} {A : Option Addr} {n : Nat} {L : List Ch} {P : Program} {kt : TypeId} {b m : Nat} {f : Lit → Option Value} (h : RTb w A n L) (hM : MapAt w P kt b m f) : Rd (fun k => k ≠ b) w 3 A n (L.flatMap Ch.cells) ∧ ∀ c ∈ L, c.In (fun k => k ≠ b) w :=
 ⟨(rd_not_map h.rd hM (by decide)).imp (fun _ hk => hk.2), fun c hc => ⟨⟨(rd_not_map (h.el c hc).k.rd hM (by decide)).imp (fun _ hk => hk.2), (h.el c hc).k.byt⟩, ⟨(rd_not_map (h.el c hc).v.rd hM (by decide)).imp (fun _ hk => hk.2), (h.el c hc).v.byt⟩⟩⟩
def OpSays (W w : World) (gd bs bf mm : Nat) (r : DP × Int × Option SW) (e : Ending) (w' : World) : Prop :=
 match r.2.2 with
 | some s => ∃ gs bt, e = .returned (.tuple #[.pointer (some ⟨gs, 0, none⟩), .nilIface]) ∧ StIn W w' gs gd bs bf bt s mm ∧ w.heap.size ≤ gs ∧ w.heap.size ≤ bt ∧ Kps (Mps bs bf bs) W w w'
 | none => e = .returned (.tuple #[.pointer none, errD r.2.1]) ∧ Kps (Mps bs bf bs) W w w'
section
variable {W w : World} {gd bs bf : Nat} {v : Value} {p : DP}
theorem sopen_small {base : Nat} (hD : Dk w base gd bs bf v p) (h : p.size < 4) : Calls Tryz.prog 48 #[.pointer (some ⟨gd, 0, none⟩)] w fun e w' => e = .returned (.tuple #[.pointer none, errD 1]) ∧ w = w' := by
 have HF := Lib.hid (fits_any hD)
 rw [if_pos h, errD_n (by decide)] at HF
 rw [errD_n (by decide)]
 clear hD h
 go_enter Tryz.func48, Tryz.ntmps48
 go_wp2_with fail
 refine HF.out.mono ?_
 rintro e w1 ⟨rfl, rfl⟩
 go_wp2_with fail
 go_ret2
 exact ⟨rfl, rfl⟩
set_option maxHeartbeats 3000000
set_option maxRecDepth 100000
theorem sopen_any (hD : Dk w W.heap.size gd bs bf v p) (hN : New W w) (hL : ShaIn 1 0 W) (hu : Up p) (h4 : 4 ≤ p.size) (hr : (runL p (log0 p.size (cnt p))).2.length ≤ 1600) :
    Calls Tryz.prog 48 #[.pointer (some ⟨gd, 0, none⟩)] w (OpSays W w gd bs bf (600 * (runL p (log0 p.size (cnt p))).2.length) (opnS p)) := by
 have HF := Lib.hid (fits_any hD)
 rw [if_neg (by omega), errD_0] at HF
 have HC := Lib.hid (counts_any hD (by omega) (hL.new hN))
 have hclt : cnt p < 4294967296 := by rw [← cntN_2]; exact cntN_lt hD.ok 2
 have HPL := Lib.hid (fun w1 (h : New w w1) => place_any (hD.new h) (by omega) (cnt p) hclt)
 have HD := Lib.hid hD
 have HL := Lib.hid hL
 have HN := Lib.hid hN
 obtain ⟨g, hg⟩ := nm (cnt p)
 obtain ⟨R, hR⟩ := nm (opnS p)
 obtain ⟨rr, hrr⟩ := nm (runL p (log0 p.size g))
 have HR : Hid (R = if g = 0 then (p, (2 : Int), (none : Option SW)) else match prsAll [] rr.2 with | some t => ((wipeL p rr.1).1, 0, some (⟨(wipeL p rr.1).1, rr.1, t, g, false⟩ : SW)) | none => ((wipeL p rr.1).1, 2, none)) := Lib.hid (by rw [hR]; unfold opnS; rw [if_neg (by omega), ← hg, hrr]; rfl)
 rw [← hR]
 rw [← hg] at HC HPL hclt hr ⊢
 rw [← hrr] at hr ⊢
 have HG := Lib.hid hclt
 have HRR := Lib.hid hrr
 have HRL := Lib.hid hr
 have HU := Lib.hid hu
 have H4 := Lib.hid h4
 clear hD hL hN hu h4 hclt hg hR hrr hr
 go_enter Tryz.func48, Tryz.ntmps48
 go_wp2_with fail
 refine HF.out.mono ?_
 rintro e w1 ⟨rfl, rfl⟩
 clear HF
 go_wp2_with fail
 refine HC.out.mono ?_
 rintro e w1 ⟨rfl, hN1⟩
 have HN1 := Lib.hid hN1
 clear hN1 HC
 by_cases h0 : g = 0
 · have HR0 := Lib.hid (HR.out.trans (if_pos h0))
   subst h0
   go_wp2_with fail
   go_ret2
   unfold OpSays
   rw [HR0.out]
   exact ⟨by rw [errD_n (show (2 : Int) ≠ 0 by decide)]; rfl, Kps.new HN1.out⟩
 have HR0 := Lib.hid (HR.out.trans (if_neg h0))
 have h0' : ¬ (g : Int) = 0 := by omega
 have H0 := Lib.hid h0
 clear h0 HR
 go_wp2_with fail
 refine (HPL.out w1 HN1.out).mono ?_
 rintro e w2 ⟨rfl, rfl⟩
 clear HPL
 have hfit := hlf_fit (g := g) H4.out
 obtain ⟨fs, hfs⟩ := nm (fst0 g p.size)
 obtain ⟨hl, hhl⟩ := nm (hlf p.size)
 have HLE : Hid (log0 p.size g = lg0 fs hl g) := Lib.hid (by rw [hfs, hhl]; rfl)
 have HFR := Lib.hid (open_good (HD.out.new HN1.out) ((HL.out.new HN.out).new HN1.out) fs hl g (by rw [hhl]; exact hfit.1) (by rw [hhl, hfs]; exact hfit.2.1) HG.out H0.out)
 rw [← HLE.out, ← HRR.out] at HFR
 have hrk := runs_ok HD.out.ok (l := log0 p.size g) (lg0_ok hfit.2.1 HG.out) ((log0 p.size g).size + 1)
 have hrk : rr.1.Ok p.size := by rw [HRR.out]; exact hrk.1
 have HW0 := Lib.hid (HU.out.wipe hrk.fit hrk.used)
 rw [← hfs, ← hhl]
 have HRB : Hid (∀ b ∈ rr.2, b.length ≤ 65536) := Lib.hid (by rw [HRR.out]; exact runs_le HD.out.ok _ _)
 obtain ⟨x, hx⟩ := nm (wipeL p rr.1)
 rw [← hx] at HFR HW0 HR0
 clear hfs hhl hfit hrk hx h0'
 go_wp2_with fail
 refine HFR.out.mono ?_
 intro e w3 hs
 unfold OpenSays at hs
 rw [if_pos HW0.out.1] at hs
 obtain ⟨gl, A, c, v3, rfl, hgl, hlg, hrec, hT⟩ := hs
 have HKP : Hid (Kps (Mps bs bf bs) W w w3) := Lib.hid ((Kps.new HN1.out).tr (Kps.of hT.fr (dk_cls (HD.out.new HN1.out) (.inl rfl) (.inr (.inl rfl)))))
 have HDK : Hid (Dk w3 W.heap.size gd bs bf v3 x.1) := Lib.hid hT.dk
 have HLG := Lib.hid hlg
 have HSZ : Hid (w.heap.size ≤ w3.heap.size ∧ w.heap.size ≤ gl ∧ W.heap.size ≤ w.heap.size ∧ bs < w.heap.size ∧ bf < w.heap.size) := Lib.hid ⟨HKP.out.size, by have := HN1.out.size; omega, HN.out.size, (HD.out.ours bs (.inr (.inl rfl))).2, (HD.out.ours bf (.inr (.inr (.inl rfl)))).2⟩
 obtain ⟨n, hn⟩ := nm rr.2.length
 rw [← hn] at hrec HRL ⊢
 have HRB3 := Lib.hid (hrec.rowB hn)
 have HNE := Lib.hid hn
 clear hgl hlg hrec hT HFR hn HN1
 go_wp2_with fail
 refine (new_any W.heap.size w3 (by have := HSZ.out; omega)).mono ?_
 rintro e w4 ⟨gt, bt, rfl, hTb, hN4, hgt, hbt⟩
 have HTB := Lib.hid hTb
 have HN4 := Lib.hid hN4
 have HBT : Hid (w3.heap.size ≤ bt) := Lib.hid hbt
 clear hTb hN4 hgt hbt
 go_upto_region 14 with fail
 refine wp_world fun w5 hw5 => ?_
 obtain ⟨gs, hgs⟩ := nm w4.heap.size
 have HGS : Hid (Blk w5 gs 245 #[.pointer (some ⟨gd, 0, none⟩), .pointer (some ⟨gl, 0, none⟩), .pointer (some ⟨gt, 0, none⟩), .int .u32 g, .bool false]) := Lib.hid (by rw [hw5.out, hgs]; exact Blk.new _ _ _)
 have HN5 : Hid (New w4 w5) := Lib.hid (by rw [hw5.out]; exact (New.refl _).al _)
 have HGZ : Hid (w3.heap.size ≤ gs) := Lib.hid (by rw [hgs]; exact HN4.out.size)
 rw [← hgs]
 clear hw5 hgs
 go_wp2_with fail
 go_loopw [13, 14, 15, 16, 61] (fun _ _ _ _ i wr => ∃ (k : Nat) (X : Nat → Prop) (m : Nat) (E : Tab), k ≤ n ∧ i = .int .i64 k ∧ Hid (New w3 wr) ∧ Hid (Blk wr gs 245 #[.pointer (some ⟨gd, 0, none⟩), .pointer (some ⟨gl, 0, none⟩), .pointer (some ⟨gt, 0, none⟩), .int .u32 g, .bool false]) ∧ Hid (TbIn X wr W.heap.size gt bt m E) ∧ Hid (prsAll [] (rr.2.take k) = some (cont E)) ∧ Hid (m ≤ 600 * k ∧ E.length ≤ 600 * k)) (fun _ _ _ _ i _ => n - (intOf i).toNat)
 case atStart => exact ⟨0, fun _ => False, 0, [], Nat.zero_le _, rfl, Lib.hid (HN4.out.tr HN5.out), HGS, Lib.hid (HTB.out.new HN5.out), Lib.hid rfl, Lib.hid ⟨Nat.le_refl _, Nat.le_refl _⟩⟩
 case round =>
  clear HGS HTB HN4 HN5
  obtain ⟨k, X, m, E, hk, rfl, HW, HB, HT, HP, HM⟩ := hrel
  by_cases hlt : k < n
  · have HLT := Lib.hid hlt
    have hnb := HRL.out
    have hlt' : (k : Int) < (n : Int) := by omega
    have hk0 : (0 : Int) ≤ (k : Int) := by omega
    obtain ⟨l, hl⟩ : ∃ l, rr.2[k]? = some l := ⟨_, List.getElem?_eq_getElem (by rw [← HNE.out]; exact hlt)⟩
    obtain ⟨ga, o, A', c', hA, hcell, hby, hrd⟩ := HRB3.out k l hl
    subst hA
    have hcw := HW.out.cell_ hcell
    have HPA := Lib.hid (parse_any A' l.length c' l wr (HW.out.rd hrd) hby (by have := HRB.out l (List.mem_of_getElem? hl); omega))
    have HL1 := Lib.hid hl
    clear hl hcell hby hrd
    go_wp2_with fail
    refine HPA.out.mono ?_
    rintro e w6 ⟨hs, hN6⟩
    have HN6 := Lib.hid hN6
    clear HPA hN6 hcw
    rcases hs with ⟨hp, rfl⟩ | ⟨A7, n7, c7, L, hp, rfl, hT7⟩
    · have HPB := Lib.hid (prsAll_bad HP.out HL1.out hp)
      clear hp
      go_wp2_with fail
      go_ret2
      unfold OpSays
      rw [HR0.out, HPB.out]
      exact ⟨by rw [errD_n (show (2 : Int) ≠ 0 by decide)]; rfl, HKP.out.tr (Kps.new (HW.out.tr HN6.out))⟩
    · have HPG := Lib.hid (prsAll_go HP.out HL1.out hp)
      have hok : chsOk L = true := by rw [← pcsOk_len hT7.lens]; exact parse_ok hp
      have HOK := Lib.hid (chsOk_spec hok)
      obtain ⟨f, hf, -⟩ := (HT.out.new HN6.out).map
      obtain ⟨ho1, ho2⟩ := hT7.off hf
      have HAP := Lib.hid (apply_any (P := fun k => k ≠ bt) (HT.out.new HN6.out) A7 n7 c7 L ho1 hT7.len ho2 (fun k hk => hk) hok (by have := HM.out; have := HRL.out; omega))
      have HN7 : Hid (n7 = L.length) := Lib.hid hT7.len.symm
      have hc2 : w6.cell? ⟨gs, 2, none⟩ = some (.pointer (some ⟨gt, 0, none⟩)) := (HN6.out.blk HB.out).cell 2
      have HB6 := Lib.hid (HN6.out.blk HB.out)
      have HW6 : Hid (New w3 w6) := Lib.hid (HW.out.tr HN6.out)
      clear hp hok hf hT7 HP ho1 ho2 HB HW
      go_wp2_with fail
      refine HAP.out.mono ?_
      rintro e w8 ⟨rfl, X8, E8, hT8, hc8, hF8, hX8⟩
      have HN8 : Hid (New w3 w8) := Lib.hid (HW6.out.fr hF8 (fun j hj => by have := HBT.out; omega))
      have HB8 := Lib.hid (HB6.out.fr hF8 (fun e => absurd e (fun e => by
       obtain ⟨f, hf, -⟩ := (HT.out.new HN6.out).map
       rw [e] at HB6
       exact IsT.not_map hf ⟨_, _, HB6.out⟩)))
      have HT8 := Lib.hid hT8
      have HP8 : Hid (prsAll [] (rr.2.take (k + 1)) = some (cont E8)) := Lib.hid (by rw [HPG.out, hc8, doPs_of])
      have HM8 : Hid (m + n7 ≤ 600 * (k + 1) ∧ E8.length ≤ 600 * (k + 1)) := Lib.hid (by
       have h1 := congrArg List.length hc8
       have h2 := doCs_le (cont E) L
       rw [cont_len] at h1 h2
       have := HM.out
       have := HN7.out
       have := HOK.out.2.1
       omega)
      clear hT8 hc8 hF8 hX8 HAP HPG
      go_wp2_with fail
      go_roundw
      case rel => exact ⟨k + 1, X8, m + n7, E8, HLT.out, by go_num, HN8, HB8, HT8, HP8, HM8⟩
      case measure => simp [intOf]; have := HLT.out; omega
  · have hge : ¬ (k : Int) < (n : Int) := by omega
    have hkn : k = n := by omega
    subst hkn
    clear hlt
    go_wp2_with fail
    go_ret2
    unfold OpSays
    rw [HR0.out]
    rw [HNE.out, List.take_length] at HP
    rw [HP.out]
    refine ⟨gs, bt, rfl, ⟨gl, gt, v3, X, m, E, HB.out, HDK.out.new HW.out, ?_, HT.out, ⟨by have := HSZ.out; have := HGZ.out; omega, by have := HSZ.out; omega⟩, ⟨by have := HSZ.out; have := HBT.out; omega, by have := HSZ.out; have := HBT.out; omega⟩, rfl, by rw [← HNE.out]; exact HM.out, HG.out, ?_⟩, by have := HSZ.out; have := HGZ.out; omega, by have := HSZ.out; have := HBT.out; omega, HKP.out.tr (Kps.new HW.out)⟩
    · show Lg wr gl gd rr.1 x.1.size
      rw [HW0.out.2.2]
      exact HLG.out.new HW.out
    · show 4 ≤ x.1.size
      rw [HW0.out.2.2]
      exact H4.out
end
end Go.Proofs.YtpifnmlnhddgeaaGreatDoor
