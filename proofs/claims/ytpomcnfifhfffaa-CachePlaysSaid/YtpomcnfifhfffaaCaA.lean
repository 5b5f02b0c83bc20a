/- The cache: New, Keep. No condition but the cache's own. -/
import Derived.Test.YtpomcnfifhfffaaCaP
namespace Go.Proofs.Ytpomcnfifhfffaa
open Go.RowKit Go.Maps

/-- What a cache writes: nothing below base, and no bytes. -/
def CF (base : Nat) (w w' : World) : Prop := Fr (fun k => base ≤ k ∧ ¬ IsB w k) w w'
section
variable {base : Nat} {w w' w'' : World}
theorem CF.refl (base : Nat) (w : World) : CF base w w := Fr.refl _ _
theorem CF.isB (h : CF base w w') {k : Nat} (hk : IsB w k) : IsB w' k := by
  exact hk.fr h (fun hs => hs.2 hk)
theorem CF.tr (h : CF base w w') (k : CF base w' w'') : CF base w w'' := Fr.trans' h k (fun b hb hs => ⟨hs.1, fun hx => hs.2 (h.isB hx)⟩)
theorem CF.new (h : New w w') : CF base w w' := h.toFr _
theorem CF.ri {g bm m : Nat} {v : Value} {O : List Int} {f : Lit → Option Value} {most : Int} (h : Ri.Rg w base g v bm m O f most) (hf : Fr (Ri.Ours g bm v) w w') : CF base w w' :=
  hf.mono fun k _ hk => ⟨(h.ours k hk).1, ri_not h k hk⟩
theorem CF.ro {g bm m : Nat} {v : Value} {O : List Int} {f : Lit → Option Value} {most : Int} (h : Ro.Rg w base g v bm m O f most) (hf : Fr (Ro.Ours g bm v) w w') : CF base w w' :=
  hf.mono fun k _ hk => ⟨(h.ours k hk).1, ro_not h k hk⟩
theorem CF.below (h : CF base w w') (hb : base ≤ w.heap.size) : Below base w w' := h.toBelow hb fun k hk hs => by omega
/-- A cache's own blocks. -/
def Cb (g bm : Nat) (v : Value) (S : List Ses) (k : Nat) : Prop := Ro.Ours g bm v k ∨ ∃ s ∈ S, Ri.Ours s.g s.bm s.v k
theorem Ca.cb {w : World} {base g : Nat} {v : Value} {bm m : Nat} {f : Lit → Option Value} {S : List Ses} {N : Nat} (h : Ca w base g v bm m f S N) {k : Nat} (hk : Cb g bm v S k) : base ≤ k ∧ k < w.heap.size := by
  rcases hk with hk | ⟨s, hs, hk⟩
  · exact h.ring.ours k hk
  · exact (h.ins s hs).1.ring.ours k hk
/-- Block x holds none of the bytes that are kept. -/
def ApartR (x : Nat) (f : Lit → Option Value) (R : List Rep) : Prop :=
  ∀ r ∈ R, ∃ (A : Option Addr) (n c : Nat) (A' : Option Addr) (n' c' : Nat), f (.int .u64 r.seq) = some (.agg #[.slice A n c, .slice A' n' c']) ∧ (∀ ad, A = some ad → 0 < n → ad.block ≠ x) ∧ (∀ ad, A' = some ad → 0 < n' → ad.block ≠ x)
def Apart (x : Nat) (S : List Ses) : Prop := ∀ s ∈ S, ApartR x s.f s.R
theorem apart_rd {w : World} {A : Option Addr} {n x : Nat} {p : Nat → Prop} {xs : List Value} (h : Rd p w 1 A n xs) (hx : w.heap.size ≤ x) : ∀ ad, A = some ad → 0 < n → ad.block ≠ x := by
  intro ad he hn e
  obtain ⟨ad', h1, _, h2, _⟩ := h.2 hn
  rw [he] at h1
  injection h1 with h1
  subst h1
  omega
theorem apart_own {w : World} {A : Option Addr} {base e n c x : Nat} {xs : List Value} (h : w.ownsRow base e 1 (.slice A n c) n xs) (hx : x < base) : ∀ ad, A = some ad → 0 < n → ad.block ≠ x := by
  intro ad he hn e
  subst he
  obtain ⟨g', cap, h1, _⟩ := own_form h hn
  injection h1 with h1
  injection h1 with h1
  subst h1
  have := (own_lt h g' (by simp [Value.ownBlock])).1
  simp at e
  omega
theorem Apart.of {w : World} {base g : Nat} {v : Value} {bm m : Nat} {f : Lit → Option Value} {S : List Ses} {N x : Nat} (h : Ca w base g v bm m f S N) (hx : w.heap.size ≤ x) : Apart x S := fun s hs r hr => by
  obtain ⟨A, n, c, A', n', c', h1, h2, h3, _⟩ := (h.ins s hs).1.reads r hr
  exact ⟨A, n, c, A', n', c', h1, apart_rd h2.1 hx, apart_rd h3.1 hx⟩
theorem ApartR.put {x : Nat} {f : Lit → Option Value} {R : List Rep} (h : ApartR x f R) (hn : (R.map Rep.seq).Nodup) {q : Int} {rq rp : List Int} {A A' : Option Addr} {n c n' c' : Nat}
    (h1 : ∀ ad, A = some ad → 0 < n → ad.block ≠ x) (h2 : ∀ ad, A' = some ad → 0 < n' → ad.block ≠ x) :
    ApartR x (putF (Ri.keptF f (R.map Rep.seq) q 64) (.int .u64 q) (some (.agg #[.slice A n c, .slice A' n' c']))) (keepR R q rq rp) := by
  intro r hm
  rcases List.mem_append.1 hm with hm | hm
  · obtain ⟨hm1, hm2⟩ := keptL_mem hm
    obtain ⟨B, k, d, B', k', d', e1, e2, e3⟩ := h r hm1
    refine ⟨B, k, d, B', k', d', ?_, e2, e3⟩
    rw [putF_other (by simpa using hm2), Ri.keptF_mem hn (by rw [ri_kept q hn]; exact List.mem_map_of_mem hm), e1]
  · obtain rfl := List.mem_singleton.1 hm
    exact ⟨A, n, c, A', n', c', putF_same (kl := .int .u64 q) trivial _, h1, h2⟩
theorem Apart.put {x : Nat} {S : List Ses} (h : Apart x S) (a : Int) {s' : Ses} (h' : ApartR x s'.f s'.R) : Apart x (keptL Ses.id S a 8 ++ [s']) := by
  intro t ht
  rcases List.mem_append.1 ht with ht | ht
  · exact h t (keptL_mem ht).1
  · obtain rfl := List.mem_singleton.1 ht
    exact h'
theorem RdB.poke {w w' : World} {x : Nat} {A : Option Addr} {n : Nat} {xs : List Int} (h : RdB w A n xs) (hf : Fr (fun k => k = x) w w') (ha : ∀ ad, A = some ad → 0 < n → ad.block ≠ x) : RdB w' A n xs := by
  refine ⟨⟨h.1.1, fun hn => ?_⟩, h.2⟩
  obtain ⟨ad, e, hb, hlt, hc⟩ := h.1.2 hn
  have hns : ¬ ad.block = x := ha ad e hn
  exact ⟨ad, e, hb.fr hf hns, Nat.lt_of_lt_of_le hlt hf.size, fun j u hu => by
    have := hc j u hu
    rwa [← hf.cell (p := ad.add j) (by rw [add_block]; exact hlt) (by rw [add_block]; exact hns)] at this⟩
/-- A block that holds nothing of a cache may change. -/
theorem Ca.poke {w w' : World} {base g : Nat} {v : Value} {bm m : Nat} {f : Lit → Option Value} {S : List Ses} {N x : Nat} (h : Ca w base g v bm m f S N) (ha : Apart x S) (hf : Fr (fun k => k = x) w w') (hc : ¬ Cb g bm v S x) : Ca w' base g v bm m f S N := by
  refine ⟨h.ring.fr hf (fun hk => hc (.inl (.inl hk.symm))) (fun hk => hc (.inl (.inr (.inl hk.symm)))) (fun k hk ht => hc (.inl (.inr (.inr (by rw [← ht]; exact hk))))), h.len, h.mN, h.ptr, fun s hs => ⟨?_, (h.ins s hs).2⟩, h.out, h.apart⟩
  have hi := (h.ins s hs).1
  refine ⟨hi.ring.fr hf (fun hk => hc (.inr ⟨s, hs, .inl hk.symm⟩)) (fun hk => hc (.inr ⟨s, hs, .inr (.inl hk.symm)⟩)) (fun k hk ht => hc (.inr ⟨s, hs, .inr (.inr (by rw [← ht]; exact hk))⟩)), hi.len, ?_⟩
  intro r hr
  obtain ⟨A, n, c, A', n', c', h1, h2, h3, h4⟩ := hi.reads r hr
  obtain ⟨B, k, d, B', k', d', e1, e2, e3⟩ := ha s hs r hr
  rw [h1] at e1
  simp only [Option.some.injEq, Value.agg.injEq, Array.mk.injEq, List.cons.injEq, Value.slice.injEq] at e1
  obtain ⟨⟨rfl, rfl, rfl⟩, ⟨rfl, rfl, rfl⟩, -⟩ := e1
  exact ⟨A, n, c, A', n', c', h1, h2.poke hf e2, h3.poke hf e3, h4⟩
/-- What is read from outside a cache. -/
def Out (base : Nat) (w : World) (b : Nat) : Prop := b < base ∨ IsB w b
theorem CF.rd (h : CF base w w') {s n : Nat} {A : Option Addr} {xs : List Value} (hr : Rd (Out base w) w s A n xs) : Rd (Out base w') w' s A n xs := by
  refine (hr.fr h ?_).imp ?_
  · rintro k (hk | hk) hs
    · omega
    · exact hs.2 hk
  · rintro k (hk | hk)
    · exact .inl hk
    · exact .inr (h.isB hk)
end
theorem rd_szs {p : Nat → Prop} {w : World} {s n : Nat} {A : Option Addr} {xs : List Value} (h : Rd p w s A n xs) : Rd (fun b => b < w.heap.size) w s A n xs :=
  ⟨h.1, fun hn => by obtain ⟨ad, e, _, hb, hc⟩ := h.2 hn; exact ⟨ad, e, hb, hb, hc⟩⟩

theorem cnew_any (base : Nat) (w : World) (hb : base ≤ w.heap.size) :
    Calls Try.prog 8 #[] w fun e w' => e = .returned (.pointer (some ⟨w.heap.size + 1, 0, none⟩)) ∧ Ca w' base (w.heap.size + 1) (.slice none 0 0) w.heap.size 0 (fun _ => none) [] 0 ∧ New w w' := by
  have hmm := @run_makeMap Try.prog
  go_enter Try.func8, Try.ntmps8
  go_wp2_with fail
  go_ret
  have hM : MapAt (w.alloc (.map #[] 0)) Try.prog 23 w.heap.size 0 (fun _ => none) := MapAt.made w _ _
  refine ⟨rfl, ⟨⟨by omega, hb, Blk.new' _ _ _ (by simp), World.ownsRow_nil _ _ _ _, hM.alloc _, by simp, by simp, by simp, fun kl h => absurd rfl h⟩, by simp, by simp, by simp, by simp, by simp, by simp⟩, New.al (New.al (New.refl w) _) _⟩

theorem keep_nil (a q : Int) (x y : Value) (w : World) : Calls Try.prog 9 #[.pointer none, .int .u64 a, .int .u64 q, x, y] w fun e w' => e = .returned (.tuple #[]) ∧ w = w' := by
  go_enter Try.func9, Try.ntmps9
  go_wp2_with fail
  exact bodyPost_ret (v := .tuple #[]) (by simp [results, Try.results9, go_sem]) rfl ⟨rfl, rfl⟩

set_option maxHeartbeats 2000000 in
theorem keep_old (base g : Nat) (v : Value) (bm m : Nat) (f : Lit → Option Value) (S : List Ses) (N : Nat) (s : Ses) (q : Int) (A B : Option Addr) (n c k d : Nat) (rq rp : List Int) (w : World) (h : Ca w base g v bm m f S N) (hs : s ∈ S)
    (hq : 0 ≤ q ∧ q < 18446744073709551616) (hN : N < 1000000) (hA : Rd (Out base w) w 1 A n (u8s rq)) (hB : Rd (Out base w) w 1 B k (u8s rp)) (ba : Byt rq) (bb : Byt rp) (hn : n ≤ 1000000) (hk : k ≤ 1000000) :
    Calls Try.prog 9 #[.pointer (some ⟨g, 0, none⟩), .int .u64 s.id, .int .u64 q, .slice A n c, .slice B k d] w fun e w' => e = .returned (.tuple #[]) ∧
      ∃ v' f' s', Ca w' base g v' bm (m + 1) f' (keptL Ses.id S s.id 8 ++ [s']) (N + 1) ∧ s'.id = s.id ∧ s'.R = keepR s.R q rq rp ∧ CF base w w' ∧ Fr (Cb g bm v S) w w' ∧ ∀ x, x < w.heap.size → Apart x S → Apart x (keptL Ses.id S s.id 8 ++ [s']) := by
  have H := Lib.hid h
  have HS := Lib.hid hs
  have HSI := Lib.hid (h.ins s hs)
  have ha := h.ring.wf s.id (List.mem_map_of_mem hs)
  have HA := Lib.hid hA
  have HB := Lib.hid hB
  have HBA := Lib.hid ba
  have HBB := Lib.hid bb
  have HQ := Lib.hid hq
  have HAA := Lib.hid ha
  have hrun := (h.ring.map.look Ro.keyU Try.underlying50 (z := .pointer none) (by kernel_rfl) (Ro.key_of ha)).2
  rw [h.ptr s hs, Option.getD_some] at hrun
  have i1 : w.cell? ⟨g, 1, none⟩ = some (.map (some bm)) := h.ring.blk.cell 1
  have hmN := h.mN
  clear h hs hA hB ba bb hq ha
  go_enter Try.func9, Try.ntmps9
  go_wp2_with fail
  refine (Ro.put_any base g bm m v (S.map Ses.id) f 8 s.id s.g w H.out.ring HAA.out (by have := H.out.len; simp; omega) (by omega) (by omega) (by omega)).mono ?_
  rintro e w1 ⟨rfl, v1, hr1, hF1, hA1⟩
  have hC1 : CF base w w1 := CF.ro H.out.ring hF1
  have HSI1 : Hid (SesIn w1 base s) := Lib.hid (HSI.out.1.fr hF1 (fun k hk ho => H.out.out s HS.out k ho hk) (ro_not H.out.ring))
  have HA1 := Lib.hid (hC1.rd HA.out)
  have HB1 := Lib.hid (hC1.rd HB.out)
  have HR1 := Lib.hid hr1
  have HF1 := Lib.hid hF1
  have HAO := Lib.hid hA1
  have HC1 := Lib.hid hC1
  clear hr1 hF1 hA1 hC1 i1 hrun
  go_wp2_with fail
  refine (bclone_any A n c rq w1 (rd_szs HA1.out) hn).mono ?_
  rintro e w2 ⟨⟨A2, c2, rfl, hO2⟩, hN2⟩
  have HN2 : Hid (New w1 w2) := Lib.hid hN2
  have HO2 := Lib.hid hO2
  have HB2 := Lib.hid ((CF.new HN2.out).rd HB1.out)
  clear hO2 hN2
  go_wp2_with fail
  refine (bclone_any B k d rp w2 (rd_szs HB2.out) hk).mono ?_
  rintro e w3 ⟨⟨B3, c3, rfl, hO3⟩, hN3⟩
  have HN3 : Hid (New w2 w3) := Lib.hid hN3
  have HO3 := Lib.hid hO3
  clear hO3 hN3
  have HN13 : Hid (New w1 w3) := Lib.hid (HN2.out.tr HN3.out)
  have HSI3 : Hid (SesIn w3 base s) := Lib.hid (HSI1.out.fr (HN13.out.toFr NoB) (fun _ x => x.elim) (fun _ x => x.elim))
  go_wp2_with fail
  refine (Ri.put_any base s.g s.bm s.m s.v (s.R.map Rep.seq) s.f 64 q A2 B3 n c2 k c3 w3 HSI3.out.ring HQ.out (by have := HSI.out.1.len; simp; omega) (by omega) (by omega) (by have := HSI.out.2; omega)).mono ?_
  rintro e w4 ⟨rfl, v4, hr4, hF4, hA4⟩
  have HR4 := Lib.hid hr4
  have HF4 := Lib.hid hF4
  have HA4 := Lib.hid hA4
  clear hr4 hF4 hA4
  go_wp2_with fail
  go_end0
  have hsz : w.heap.size ≤ w1.heap.size := HF1.out.size
  have hsz3 : w1.heap.size ≤ w3.heap.size := HN13.out.size
  have hS' := HSI3.out.put HR4.out HF4.out ((RdB.own HO2.out HBA.out).fr (HN3.out.toFr NoB) (fun _ x => x.elim)) (RdB.own HO3.out HBB.out) hn hk
  have hF14 : Fr (Ri.Ours s.g s.bm s.v) w1 w4 := (HN13.out.toFr _).trans HF4.out
  refine ⟨rfl, v1, _, _, H.out.keep (s' := ⟨s.id, s.g, s.bm, s.m + 1, v4, keepR s.R q rq rp, putF (Ri.keptF s.f (s.R.map Rep.seq) q 64) (.int .u64 q) (some (.agg #[.slice A2 n c2, .slice B3 k c3]))⟩) HR1.out HF1.out HAO.out hF14 hS' rfl (by have := HSI.out.2; show s.m + 1 ≤ N + 1; omega) ?_ ?_ ?_ ?_ ?_, rfl, rfl, ?_, ?_, ?_⟩
  · exact fun t ht hne k hk => H.out.two HS.out ht hne k hk
  · intro k hk
    have h0 := H.out.out s HS.out k hk
    have hlt := (HSI.out.1.ring.ours k hk).2
    rintro (e | e | e)
    · exact h0 (.inl e)
    · exact h0 (.inr (.inl e))
    · rcases HAO.out k e with e' | e'
      · exact h0 (.inr (.inr e'))
      · omega
  · exact ri_not HSI1.out.ring
  · rintro k hk
    have key : Ri.Ours s.g s.bm s.v k ∨ w3.heap.size ≤ k := by
      rcases hk with e | e | e
      · exact .inl (.inl e)
      · exact .inl (.inr (.inl e))
      · rcases HA4.out k e with e' | e'
        · exact .inl (.inr (.inr e'))
        · exact .inr e'
    rcases key with hk | hk
    · have h0 := H.out.out s HS.out k hk
      have hlt := (HSI.out.1.ring.ours k hk).2
      rintro (e | e | e)
      · exact h0 (.inl e)
      · exact h0 (.inr (.inl e))
      · rcases HAO.out k e with e' | e'
        · exact h0 (.inr (.inr e'))
        · omega
    · intro ho
      have := (HR1.out.ours k ho).2
      omega
  · intro t ht hne k hk ho
    have hlt := ((H.out.ins t ht).1.ring.ours k hk).2
    rcases ho with e | e | e
    · exact H.out.two HS.out ht hne k hk (.inl e)
    · exact H.out.two HS.out ht hne k hk (.inr (.inl e))
    · rcases HA4.out k e with e' | e'
      · exact H.out.two HS.out ht hne k hk (.inr (.inr e'))
      · omega
  · exact (HC1.out.tr (CF.new HN13.out)).tr (CF.ri HSI3.out.ring HF4.out)
  · exact ((HF1.out.mono (T := Cb g bm v S) (fun k _ hk => .inl hk)).trans' (HN13.out.toFr NoB) (fun _ _ x => x.elim)).trans' HF4.out (fun k _ hk => .inr ⟨s, HS.out, hk⟩)
  · intro x hx ha
    exact ha.put s.id (s' := ⟨s.id, s.g, s.bm, s.m + 1, v4, keepR s.R q rq rp, _⟩) ((ha s HS.out).put HSI.out.1.ring.nd (apart_own HO2.out (by omega)) (apart_own HO3.out (by have := HN2.out.size; omega)))

set_option maxHeartbeats 2000000 in
theorem keep_new (base g : Nat) (v : Value) (bm m : Nat) (f : Lit → Option Value) (S : List Ses) (N : Nat) (a : Int) (q : Int) (A B : Option Addr) (n c k d : Nat) (rq rp : List Int) (w : World) (h : Ca w base g v bm m f S N) (hs : a ∉ S.map Ses.id) (ha : 0 ≤ a ∧ a < 18446744073709551616)
    (hq : 0 ≤ q ∧ q < 18446744073709551616) (hN : N < 1000000) (hA : Rd (Out base w) w 1 A n (u8s rq)) (hB : Rd (Out base w) w 1 B k (u8s rp)) (ba : Byt rq) (bb : Byt rp) (hn : n ≤ 1000000) (hk : k ≤ 1000000) :
    Calls Try.prog 9 #[.pointer (some ⟨g, 0, none⟩), .int .u64 a, .int .u64 q, .slice A n c, .slice B k d] w fun e w' => e = .returned (.tuple #[]) ∧
      ∃ v' f' s', Ca w' base g v' bm (m + 1) f' (keptL Ses.id S a 8 ++ [s']) (N + 1) ∧ s'.id = a ∧ s'.R = keepR [] q rq rp ∧ CF base w w' ∧ Fr (Cb g bm v S) w w' ∧ ∀ x, x < w.heap.size → Apart x S → Apart x (keptL Ses.id S a 8 ++ [s']) := by
  have H := Lib.hid h
  have HS := Lib.hid hs
  have hmm := @run_makeMap Try.prog
  have HA := Lib.hid hA
  have HB := Lib.hid hB
  have HBA := Lib.hid ba
  have HBB := Lib.hid bb
  have HQ := Lib.hid hq
  have HAA := Lib.hid ha
  have hrun := (h.ring.map.look Ro.keyU Try.underlying50 (z := .pointer none) (by kernel_rfl) (Ro.key_of ha)).2
  have hfa : f (.int .u64 a) = none := by
    rcases hx : f (.int .u64 a) with _ | y
    · rfl
    · obtain ⟨x, hx1, hx2⟩ := h.ring.dom (.int .u64 a) (by rw [hx]; simp)
      injection hx2 with _ hx2
      exact absurd (hx2 ▸ hx1) hs
  rw [hfa, Option.getD_none] at hrun
  have i1 : w.cell? ⟨g, 1, none⟩ = some (.map (some bm)) := h.ring.blk.cell 1
  have hmN := h.mN
  clear h hs hA hB ba bb hq ha hfa
  go_enter Try.func9, Try.ntmps9
  go_wp2_with fail
  obtain ⟨w0, hw0⟩ : ∃ w0 : World, w0 = (w.alloc (.map #[] 0)).alloc (.cells #[.slice none 0 0, .map (some w.heap.size), .int .i64 64] 58) := ⟨_, rfl⟩
  have HN0 : Hid (New w w0) := Lib.hid (by rw [hw0]; exact New.al (New.al (New.refl w) _) _)
  have HG0 : Hid (Blk w0 (w.heap.size + 1) 58 #[.slice none 0 0, .map (some w.heap.size), .int .i64 64]) := Lib.hid (by rw [hw0]; exact Blk.new' _ _ _ (by simp))
  have HM0 : Hid (MapAt w0 Try.prog 23 w.heap.size 0 (fun _ => none)) := Lib.hid (by rw [hw0]; exact (MapAt.made w Try.prog 23).alloc _)
  have HSZ : Hid (w0.heap.size = w.heap.size + 2) := Lib.hid (by rw [hw0]; simp)
  rw [← hw0]
  clear hw0
  have hbw : base ≤ w.heap.size := by have := H.out.ring.hg; have := H.out.ring.blk.lt; omega
  have HS0 : Hid (SesIn w0 base ⟨a, w.heap.size + 1, w.heap.size, 0, .slice none 0 0, [], fun _ => none⟩) := Lib.hid ⟨⟨Nat.le_succ_of_le hbw, hbw, HG0.out, World.ownsRow_nil _ _ _ _, HM0.out, by simp, by simp, by simp, fun kl h => absurd rfl h⟩, by simp, fun r hr => by simp at hr⟩
  have H0 := Lib.hid (H.out.new HN0.out)
  refine (Ro.put_any base g bm m v (S.map Ses.id) f 8 a (w.heap.size + 1) w0 H0.out.ring HAA.out (by have := H.out.len; simp; omega) (by omega) (by omega) (by omega)).mono ?_
  rintro e w1 ⟨rfl, v1, hr1, hF1, hA1⟩
  have hC1 : CF base w w1 := (CF.new HN0.out).tr (CF.ro H0.out.ring hF1)
  have hnw : ∀ k, Ri.Ours (w.heap.size + 1) w.heap.size (.slice none 0 0) k → ¬ Ro.Ours g bm v k := fun k hk ho => by
    have := (H.out.ring.ours k ho).2
    rcases hk with e | e | e
    · omega
    · omega
    · cases e
  have HNW := Lib.hid hnw
  have HSI1 : Hid (SesIn w1 base ⟨a, w.heap.size + 1, w.heap.size, 0, .slice none 0 0, [], fun _ => none⟩) := Lib.hid (HS0.out.fr hF1 (fun k hk ho => hnw k ho hk) (ro_not H0.out.ring))
  have HA1 := Lib.hid (hC1.rd HA.out)
  have HB1 := Lib.hid (hC1.rd HB.out)
  have HR1 := Lib.hid hr1
  have HF1 := Lib.hid hF1
  have HAO := Lib.hid hA1
  have HC1 := Lib.hid hC1
  clear hr1 hF1 hA1 hC1 i1 hrun hnw
  go_wp2_with fail
  refine (bclone_any A n c rq w1 (rd_szs HA1.out) hn).mono ?_
  rintro e w2 ⟨⟨A2, c2, rfl, hO2⟩, hN2⟩
  have HN2 : Hid (New w1 w2) := Lib.hid hN2
  have HO2 := Lib.hid hO2
  have HB2 := Lib.hid ((CF.new HN2.out).rd HB1.out)
  clear hO2 hN2
  go_wp2_with fail
  refine (bclone_any B k d rp w2 (rd_szs HB2.out) hk).mono ?_
  rintro e w3 ⟨⟨B3, c3, rfl, hO3⟩, hN3⟩
  have HN3 : Hid (New w2 w3) := Lib.hid hN3
  have HO3 := Lib.hid hO3
  clear hO3 hN3
  have HN13 : Hid (New w1 w3) := Lib.hid (HN2.out.tr HN3.out)
  have HSI3 : Hid (SesIn w3 base ⟨a, w.heap.size + 1, w.heap.size, 0, .slice none 0 0, [], fun _ => none⟩) := Lib.hid (HSI1.out.fr (HN13.out.toFr NoB) (fun _ x => x.elim) (fun _ x => x.elim))
  go_wp2_with fail
  refine (Ri.put_any base (w.heap.size + 1) w.heap.size 0 (.slice none 0 0) [] (fun _ => none) 64 q A2 B3 n c2 k c3 w3 HSI3.out.ring HQ.out (by simp) (by omega) (by omega) (by omega)).mono ?_
  rintro e w4 ⟨rfl, v4, hr4, hF4, hA4⟩
  have HR4 := Lib.hid hr4
  have HF4 := Lib.hid hF4
  have HA4 := Lib.hid hA4
  clear hr4 hF4 hA4
  go_wp2_with fail
  go_end0
  have hsz0 := HSZ.out
  have hsz : w0.heap.size ≤ w1.heap.size := HF1.out.size
  have hsz3 : w1.heap.size ≤ w3.heap.size := HN13.out.size
  have hS' := HSI3.out.put HR4.out HF4.out ((RdB.own HO2.out HBA.out).fr (HN3.out.toFr NoB) (fun _ x => x.elim)) (RdB.own HO3.out HBB.out) hn hk
  have hF14 : Fr (Ri.Ours (w.heap.size + 1) w.heap.size (.slice none 0 0)) w1 w4 := (HN13.out.toFr _).trans HF4.out
  have hnew : ∀ k, Ri.Ours (w.heap.size + 1) w.heap.size v4 k → w.heap.size ≤ k ∧ (k < w0.heap.size ∨ w3.heap.size ≤ k) := by
    rintro k (e | e | e)
    · omega
    · omega
    · rcases HA4.out k e with e' | e'
      · cases e'
      · exact ⟨by omega, .inr e'⟩
  refine ⟨rfl, v1, _, _, H0.out.keep (s' := ⟨a, w.heap.size + 1, w.heap.size, 0 + 1, v4, keepR [] q rq rp, putF (Ri.keptF (fun _ => none) ([].map Rep.seq) q 64) (.int .u64 q) (some (.agg #[.slice A2 n c2, .slice B3 k c3]))⟩) HR1.out HF1.out HAO.out hF14 hS' rfl (by show 0 + 1 ≤ N + 1; omega) ?_ ?_ ?_ ?_ ?_, rfl, rfl, ?_, ?_, ?_⟩
  · intro t ht hne k hk ho
    have hlt := ((H.out.ins t ht).1.ring.ours k hk).2
    rcases ho with e | e | e
    · omega
    · omega
    · cases e
  · intro k hk
    have h0 := HNW.out k hk
    rintro (e | e | e)
    · exact h0 (.inl e)
    · exact h0 (.inr (.inl e))
    · rcases HAO.out k e with e' | e'
      · exact h0 (.inr (.inr e'))
      · rcases hk with e | e | e
        · omega
        · omega
        · cases e
  · exact ri_not HSI1.out.ring
  · intro k hk
    obtain ⟨k1, k2⟩ := hnew k hk
    intro ho
    have hl1 := (HR1.out.ours k ho).2
    rcases ho with e | e | e
    · have := H.out.ring.blk.lt; omega
    · have := H.out.ring.map.lt; omega
    · rcases HAO.out k e with e' | e'
      · have := (own_lt H.out.ring.own k e').2; omega
      · omega
  · intro t ht hne k hk ho
    have hlt := ((H.out.ins t ht).1.ring.ours k hk).2
    have := (hnew k ho).1
    omega
  · exact (HC1.out.tr (CF.new HN13.out)).tr (CF.ri HSI3.out.ring HF4.out)
  · refine (((HN0.out.toFr (Cb g bm v S)).trans' HF1.out (fun k _ hk => .inl hk)).trans' (HN13.out.toFr NoB) (fun _ _ x => x.elim)).trans' HF4.out (fun k hk ho => ?_)
    rcases ho with e | e | e
    · omega
    · omega
    · cases e
  · intro x hx ha
    exact ha.put a (s' := ⟨a, w.heap.size + 1, w.heap.size, 0 + 1, v4, keepR [] q rq rp, _⟩) (ApartR.put (f := fun _ => none) (R := []) (fun r hr => by cases hr) List.nodup_nil (apart_own HO2.out (by omega)) (apart_own HO3.out (by have := HN2.out.size; omega)))
end Go.Proofs.Ytpomcnfifhfffaa
