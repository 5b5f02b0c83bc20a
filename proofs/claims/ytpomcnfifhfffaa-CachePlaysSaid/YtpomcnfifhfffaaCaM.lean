/- Keep and Find, each whole. No condition but the cache's own. -/
import Derived.Test.YtpomcnfifhfffaaCaK
import Derived.Test.YtpomcnfifhfffaaCaL
import Derived.Test.YtpomcnfifhfffaaCaH
namespace Go.Proofs.Ytpomcnfifhfffaa
open Go.RowKit Go.Maps

theorem keep_any (base g : Nat) (v : Value) (bm m : Nat) (f : Lit → Option Value) (S : List Ses) (N : Nat) (a q : Int) (A B : Option Addr) (n c k d : Nat) (rq rp : List Int) (w : World) (h : Ca w base g v bm m f S N) (ha : 0 ≤ a ∧ a < 18446744073709551616)
    (hq : 0 ≤ q ∧ q < 18446744073709551616) (hN : N < 1000000) (hA : Rd (Out base w) w 1 A n (u8s rq)) (hB : Rd (Out base w) w 1 B k (u8s rp)) (ba : Byt rq) (bb : Byt rp) (hn : n ≤ 1000000) (hk : k ≤ 1000000) (K : List KV) (hK : Holds K S) :
    Calls Try.prog 9 #[.pointer (some ⟨g, 0, none⟩), .int .u64 a, .int .u64 q, .slice A n c, .slice B k d] w fun e w' => e = .returned (.tuple #[]) ∧
      ∃ v' f' S' s', Ca w' base g v' bm (m + 1) f' S' (N + 1) ∧ Holds (K ++ [⟨a, q, rq, rp⟩]) S' ∧ s' ∈ S' ∧ s'.id = a ∧ ⟨q, rq, rp⟩ ∈ s'.R ∧ CF base w w' ∧ Fr (Cb g bm v S) w w' := by
  by_cases hs : a ∈ S.map Ses.id
  · obtain ⟨s, ks, rfl⟩ := List.mem_map.1 hs
    refine (keep_old base g v bm m f S N s q A B n c k d rq rp w h ks hq hN hA hB ba bb hn hk).mono ?_
    rintro e w' ⟨he, v', f', s', h1, h2, h3, h4, h5, -⟩
    exact ⟨he, v', f', _, s', h1, hK.keep ⟨s.id, q, rq, rp⟩ s' h2 (.inl ⟨s, ks, rfl, h3⟩), by simp, h2, by rw [h3]; simp [keepR], h4, h5⟩
  · refine (keep_new base g v bm m f S N a q A B n c k d rq rp w h hs ha hq hN hA hB ba bb hn hk).mono ?_
    rintro e w' ⟨he, v', f', s', h1, h2, h3, h4, h5, -⟩
    exact ⟨he, v', f', _, s', h1, hK.keep ⟨a, q, rq, rp⟩ s' h2 (.inr h3), by simp, h2, by rw [h3]; simp [keepR], h4, h5⟩

/-- What Find answers: nothing, or a reply that a session holds for this request. -/
theorem find_any (base g : Nat) (v : Value) (bm m : Nat) (f : Lit → Option Value) (S : List Ses) (N : Nat) (a q : Int) (A : Option Addr) (n c : Nat) (rq : List Int) (w : World) (h : Ca w base g v bm m f S N) (ha : 0 ≤ a ∧ a < 18446744073709551616)
    (hq : 0 ≤ q ∧ q < 18446744073709551616) (hA : Rd (Out base w) w 1 A n (u8s rq)) (ba : Byt rq) :
    Calls Try.prog 10 #[.pointer (some ⟨g, 0, none⟩), .int .u64 a, .int .u64 q, .slice A n c] w fun e w' => (e = .returned (.tuple #[.slice none 0 0, .bool false]) ∨
      ∃ A' n' c' s r, e = .returned (.tuple #[.slice A' n' c', .bool true]) ∧ RdB w' A' n' r.rep ∧ s ∈ S ∧ r ∈ s.R ∧ s.id = a ∧ r.seq = q ∧ r.req = rq) ∧ New w w' := by
  by_cases hs : a ∈ S.map Ses.id
  · obtain ⟨s, ks, rfl⟩ := List.mem_map.1 hs
    by_cases hr : q ∈ s.R.map Rep.seq
    · obtain ⟨r, kr, rfl⟩ := List.mem_map.1 hr
      by_cases he : r.req = rq
      · refine (find_hit base g v bm m f S N s r A n c rq w h ks kr hA ba he).mono ?_
        rintro e w' ⟨⟨A', n', c', h1, h2, h3⟩, h4⟩
        exact ⟨.inr ⟨A', n', c', s, r, h1, h2, ks, kr, rfl, rfl, he⟩, h4⟩
      · refine (find_diff base g v bm m f S N s r A n c rq w h ks kr hA ba he).mono ?_
        rintro e w' ⟨h1, h4⟩
        exact ⟨.inl h1, h4⟩
    · refine (find_un base g v bm m f S N s q _ w h ks hr hq).mono ?_
      rintro e w' ⟨h1, h4⟩
      exact ⟨.inl h1, h4⟩
  · refine (find_out base g v bm m f S N a q _ w h hs ha).mono ?_
    rintro e w' ⟨h1, rfl⟩
    exact ⟨.inl h1, New.refl _⟩
end Go.Proofs.Ytpomcnfifhfffaa
