/- The cache beside the document's list: Keep, Find, Len, Drop. No condition but the cache's own. -/
import Derived.Test.YtpomcnfifhfffaaCaM
import Derived.Test.YtpomcnfifhfffaaCsF
import Derived.Test.YtpomcnfifhfffaaCsK
namespace Go.Proofs.Ytpomcnfifhfffaa
open Go.RowKit Go.Maps

theorem drop_live (base g : Nat) (v : Value) (bm m : Nat) (f : Lit → Option Value) (S : List Ses) (N : Nat) (a : Int) (w : World) (h : Ca w base g v bm m f S N) :
    Calls Try.prog 14 #[.pointer (some ⟨g, 0, none⟩), .int .u64 a] w fun e w' => e = .returned (.bool (at_ (S.map Ses.id) a).isSome) ∧
      ∃ v' f', Ca w' base g v' bm m f' (S.filter fun s => s.id != a) N ∧ Fr (Cb g bm v S) w w' := by
  have H := Lib.hid h
  clear h
  go_enter Try.func14, Try.ntmps14
  go_wp2_with fail
  refine (Ro.drop_any base g bm m v (S.map Ses.id) f 8 a w H.out.ring).mono ?_
  rintro e w1 ⟨rfl, v1, hr1, ho1, hF1⟩
  have HR1 := Lib.hid hr1
  have HO1 := Lib.hid ho1
  have HF1 := Lib.hid hF1
  clear hr1 ho1 hF1
  go_wp2_with fail
  go_ret
  have h := H.out
  have hE : Ro.eraseN (S.map Ses.id) a = (S.filter fun s => s.id != a).map Ses.id := by rw [Ro.eraseN_eq, erase_filter Ses.id S a h.ring.nd]
  have hr := HR1.out
  rw [hE] at hr
  have hour : ∀ k, Ro.Ours g bm v1 k → Ro.Ours g bm v k := fun k hk => by
    rcases hk with e | e | e
    · exact .inl e
    · exact .inr (.inl e)
    · exact .inr (.inr (by rw [← HO1.out]; exact e))
  refine ⟨rfl, v1, _, ⟨hr, ?_, h.mN, ?_, ?_, ?_, ?_⟩, HF1.out.mono fun k _ hk => .inl hk⟩
  · exact Nat.le_trans (List.length_filter_le _ _) h.len
  · intro s hs
    obtain ⟨h1, h2⟩ := List.mem_filter.1 hs
    rw [putF_other (by simpa using h2)]
    exact h.ptr s h1
  · intro s hs
    obtain ⟨h1, h2⟩ := List.mem_filter.1 hs
    exact ⟨(h.ins s h1).1.fr HF1.out (fun k hk ho => h.out s h1 k ho hk) (ro_not h.ring), (h.ins s h1).2⟩
  · intro s hs k hk ho
    exact h.out s (List.mem_filter.1 hs).1 k hk (hour k ho)
  · exact h.apart.sublist List.filter_sublist

theorem at_isSome (O : List Int) (a : Int) : (at_ O a).isSome = decide (a ∈ O) := by
  rcases h : at_ O a with _ | i
  · rw [decide_eq_false (at_none_iff.1 h)]; rfl
  · rw [decide_eq_true (Classical.not_not.1 fun hn => by rw [at_none_iff.2 hn] at h; cases h)]; rfl

theorem drop_plays (base g : Nat) (v : Value) (bm m : Nat) (f : Lit → Option Value) (S : List Ses) (N : Nat) (a : Int) (w : World) (h : Ca w base g v bm m f S N) (L : List KV) (hM : MtC S L) :
    Calls Try.prog 14 #[.pointer (some ⟨g, 0, none⟩), .int .u64 a] w fun e w' => e = .returned (.bool (decide (0 < cnt L a))) ∧
      ∃ v' f' S', Ca w' base g v' bm m f' S' N ∧ MtC S' (dropL L a) ∧ Fr (Cb g bm v S) w w' := by
  refine (drop_live base g v bm m f S N a w h).mono ?_
  rintro e w' ⟨rfl, v', f', h1, h2⟩
  refine ⟨?_, v', f', _, h1, hM.drop a, h2⟩
  rw [at_isSome]
  congr 2
  exact decide_eq_decide.2 (hM.has a)

theorem keep_plays (base g : Nat) (v : Value) (bm m : Nat) (f : Lit → Option Value) (S : List Ses) (N : Nat) (a q : Int) (A B : Option Addr) (n c k d : Nat) (rq rp : List Int) (w : World) (h : Ca w base g v bm m f S N) (ha : 0 ≤ a ∧ a < 18446744073709551616)
    (hq : 0 ≤ q ∧ q < 18446744073709551616) (hN : N < 1000000) (hA : Rd (Out base w) w 1 A n (u8s rq)) (hB : Rd (Out base w) w 1 B k (u8s rp)) (ba : Byt rq) (bb : Byt rp) (hn : n ≤ 1000000) (hk : k ≤ 1000000) (L : List KV) (hM : MtC S L) :
    Calls Try.prog 9 #[.pointer (some ⟨g, 0, none⟩), .int .u64 a, .int .u64 q, .slice A n c, .slice B k d] w fun e w' => e = .returned (.tuple #[]) ∧
      ∃ v' f' S', Ca w' base g v' bm (m + 1) f' S' (N + 1) ∧ MtC S' (keepL L ⟨a, q, rq, rp⟩) ∧ Fr (Cb g bm v S) w w' ∧ ∀ x, x < w.heap.size → Apart x S → Apart x S' := by
  by_cases hs : a ∈ S.map Ses.id
  · obtain ⟨s, ks, rfl⟩ := List.mem_map.1 hs
    refine (keep_old base g v bm m f S N s q A B n c k d rq rp w h ks hq hN hA hB ba bb hn hk).mono ?_
    rintro e w' ⟨he, v', f', s', h1, h2, h3, h4, h5, h6⟩
    exact ⟨he, v', f', _, h1, hM.keep h.len ⟨s.id, q, rq, rp⟩ s' h2 (by rw [h3, hM.reps s ks]), h5, h6⟩
  · refine (keep_new base g v bm m f S N a q A B n c k d rq rp w h hs ha hq hN hA hB ba bb hn hk).mono ?_
    rintro e w' ⟨he, v', f', s', h1, h2, h3, h4, h5, h6⟩
    have h0 : ofId L a = [] := by
      have := cnt_eq L a
      have h0 : cnt L a = 0 := Nat.eq_zero_of_not_pos fun hp => hs ((hM.has a).2 hp)
      rw [h0] at this
      exact List.length_eq_zero_iff.1 this.symm
    exact ⟨he, v', f', _, h1, hM.keep h.len ⟨a, q, rq, rp⟩ s' h2 (by rw [h3]; show _ = keepR (ofId L a) q rq rp; rw [h0]), h5, h6⟩

/-- What Find answers. -/
def FAns (w' : World) (r : Option KV) (e : Ending) : Prop := match r with
  | some x => ∃ A n c, e = .returned (.tuple #[.slice A n c, .bool true]) ∧ RdB w' A n x.rep
  | none => e = .returned (.tuple #[.slice none 0 0, .bool false])
theorem find_plays (base g : Nat) (v : Value) (bm m : Nat) (f : Lit → Option Value) (S : List Ses) (N : Nat) (a q : Int) (A : Option Addr) (n c : Nat) (rq : List Int) (w : World) (h : Ca w base g v bm m f S N) (ha : 0 ≤ a ∧ a < 18446744073709551616)
    (hq : 0 ≤ q ∧ q < 18446744073709551616) (hA : Rd (Out base w) w 1 A n (u8s rq)) (ba : Byt rq) (L : List KV) (hM : MtC S L) :
    Calls Try.prog 10 #[.pointer (some ⟨g, 0, none⟩), .int .u64 a, .int .u64 q, .slice A n c] w fun e w' => FAns w' (findL L a q rq) e ∧ New w w' := by
  have hid : ∀ s ∈ S, ∀ t ∈ S, s.id = t.id → s = t := fun s hs t ht e => by
    have hn := h.ring.nd
    by_cases hst : s = t
    · exact hst
    · exact absurd e (pw (R := fun s t : Ses => s.id ≠ t.id) (List.pairwise_map.1 hn) (fun _ _ h => h.symm) hs ht hst)
  by_cases hs : a ∈ S.map Ses.id
  · obtain ⟨s, ks, rfl⟩ := List.mem_map.1 hs
    by_cases hr : q ∈ s.R.map Rep.seq
    · obtain ⟨r, kr, rfl⟩ := List.mem_map.1 hr
      by_cases he : r.req = rq
      · refine (find_hit base g v bm m f S N s r A n c rq w h ks kr hA ba he).mono ?_
        rintro e w' ⟨⟨A', n', c', h1, h2, h3⟩, h4⟩
        obtain ⟨x, hx, hxr⟩ := find_some hM ks kr (h.ins s ks).1.ring.nd
        rw [he] at hx
        rw [hx]
        exact ⟨⟨A', n', c', h1, by rw [hxr]; exact h2⟩, h4⟩
      · refine (find_diff base g v bm m f S N s r A n c rq w h ks kr hA ba he).mono ?_
        rintro e w' ⟨h1, h4⟩
        rw [find_none hM (fun t ht e r' hr' e' => by
          obtain rfl := hid t ht s ks e
          have hn := (h.ins t ht).1.ring.nd
          by_cases hrr : r' = r
          · rw [hrr]; exact he
          · exact absurd e' (pw (R := fun s t : Rep => s.seq ≠ t.seq) (List.pairwise_map.1 hn) (fun _ _ h => h.symm) hr' kr hrr))]
        exact ⟨h1, h4⟩
    · refine (find_un base g v bm m f S N s q _ w h ks hr hq).mono ?_
      rintro e w' ⟨h1, h4⟩
      rw [find_none hM (fun t ht e r' hr' e' => by
        obtain rfl := hid t ht s ks e
        exact absurd (List.mem_map.2 ⟨r', hr', e'⟩) hr)]
      exact ⟨h1, h4⟩
  · refine (find_out base g v bm m f S N a q _ w h hs ha).mono ?_
    rintro e w' ⟨h1, rfl⟩
    rw [find_none hM (fun t ht e r' hr' e' => absurd (List.mem_map.2 ⟨t, ht, e⟩) hs)]
    exact ⟨h1, New.refl _⟩
theorem len_plays (base g : Nat) (v : Value) (bm m : Nat) (f : Lit → Option Value) (S : List Ses) (N : Nat) (a : Int) (w : World) (h : Ca w base g v bm m f S N) (ha : 0 ≤ a ∧ a < 18446744073709551616) (L : List KV) (hM : MtC S L) :
    Calls Try.prog 12 #[.pointer (some ⟨g, 0, none⟩), .int .u64 a] w fun e w' => e = .returned (.int .i64 (cnt L a)) ∧ w = w' := by
  by_cases hs : a ∈ S.map Ses.id
  · obtain ⟨s, ks, rfl⟩ := List.mem_map.1 hs
    refine (len_in base g v bm m f S N s w h ks).mono ?_
    rintro e w' ⟨rfl, rfl⟩
    rw [hM.len ks]
    exact ⟨rfl, rfl⟩
  · refine (len_out base g v bm m f S N a w h hs ha).mono ?_
    rintro e w' ⟨rfl, rfl⟩
    have h0 : cnt L a = 0 := Nat.eq_zero_of_not_pos fun hp => hs ((hM.has a).2 hp)
    rw [h0]
    exact ⟨rfl, rfl⟩

theorem findL_kvs (G : List GC) (a q : Int) (rq : List Int) : findL (kvs G) a q rq = (G.find? (hits a q rq)).map GC.kv := by
  unfold findL kvs
  rw [List.find?_map]
  rfl
theorem kvs_drop (G : List GC) (a : Int) : kvs (G.filter fun x => x.kv.id != a) = dropL (kvs G) a := filter_kvs (fun y => y.id != a) G
/-- Nothing of a cache is of the document's list. -/
theorem Ca.not_T {w : World} {base g : Nat} {v : Value} {bm m : Nat} {f : Lit → Option Value} {S : List Ses} {N : Nat} (h : Ca w base g v bm m f S N) {t : TypeId} (h1 : 54 ≠ t) (h2 : 58 ≠ t) (h3 : 23 ≠ t) : ∀ k, Cb g bm v S k → ¬ IsT t w k := by
  rintro k (hk | ⟨s, hs, hk⟩)
  · rcases hk with rfl | rfl | hk
    · exact IsT.not_blk h.ring.blk h1
    · exact IsT.not_map h.ring.map
    · exact IsT.not_own h.ring.own h3 hk
  · have hi := (h.ins s hs).1.ring
    rcases hk with rfl | rfl | hk
    · exact IsT.not_blk hi.blk h2
    · exact IsT.not_map hi.map
    · exact IsT.not_own hi.own h3 hk
theorem Ca.not_B {w : World} {base g : Nat} {v : Value} {bm m : Nat} {f : Lit → Option Value} {S : List Ses} {N : Nat} (h : Ca w base g v bm m f S N) : ∀ k, Cb g bm v S k → ¬ IsB w k := by
  rintro k (hk | ⟨s, hs, hk⟩)
  · exact ro_not h.ring k hk
  · exact ri_not (h.ins s hs).1.ring k hk
end Go.Proofs.Ytpomcnfifhfffaa
