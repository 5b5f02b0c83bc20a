/- What CachePlays' walk holds at its loops' heads. No condition. -/
import Derived.Test.YtpomcnfifhfffaaCsQ
import Derived.Test.YtpomcnfifhfffaaCaN
namespace Go.Proofs.Ytpomcnfifhfffaa
open Go.RowKit Go.Maps

/-- An act as the document's list has it. -/
def AB.gc (a : AB) : GC := ⟨a.kv, a.av.A, a.av.n, a.av.c, a.av.B, a.av.k, a.av.d⟩
theorem AB.Good.gc {w : World} {a : AB} (h : a.Good w) (h1 : a.av.n ≤ 1000000) (h2 : a.av.k ≤ 1000000) : a.gc.Good w := ⟨h.id, h.seq, h.rdq, h.rdp, h.bq, h.bp, h1, h2⟩
theorem GC.Good.new {w w' : World} {x : GC} (h : x.Good w) (hN : New w w') : x.Good w' :=
  ⟨h.id, h.seq, (hN.rd h.rdq).imp fun k hk => Nat.lt_of_lt_of_le hk hN.size, (hN.rd h.rdp).imp fun k hk => Nat.lt_of_lt_of_le hk hN.size, h.bq, h.bp, h.nq, h.np⟩
theorem keepG_sub (L : List GC) (x : GC) : ∃ M, keepG L x = M ++ [x] ∧ M.Sublist L := by
  refine ⟨_, rfl, ?_⟩
  have h2 : ∀ (M : List GC) (a : Int), (keep2G M a).Sublist M := fun M a => by
    unfold keep2G
    split
    · exact List.eraseP_sublist
    · exact List.Sublist.refl _
  have h3 : ∀ (L0 M : List GC) (a : Int), (keep3G L0 M a).Sublist M := fun L0 M a => by
    unfold keep3G
    split
    · exact List.filter_sublist
    · exact List.Sublist.refl _
  exact ((h3 _ _ _).trans (h2 _ _)).trans List.filter_sublist
theorem keepG_len (L : List GC) (x : GC) : (keepG L x).length ≤ L.length + 1 := by
  obtain ⟨M, h, hs⟩ := keepG_sub L x
  rw [h]
  have := hs.length_le
  simp
  omega
theorem keepG_mem {L : List GC} {x y : GC} (h : y ∈ keepG L x) : y ∈ L ∨ y = x := by
  obtain ⟨M, h', hs⟩ := keepG_sub L x
  rw [h'] at h
  rcases List.mem_append.1 h with h | h
  · exact .inl (hs.subset h)
  · exact .inr (List.mem_singleton.1 h)

/-- The cache and the document's list, side by side, behind at most j acts. -/
def LP (w w0 : World) (base g bm j : Nat) (u : Value) (wr : World) : Prop :=
  ∃ v m f S N G A n c, u = .slice A n c ∧ RdT 45 wr 4 A n (flatG G) ∧ G.length = n ∧ n ≤ j ∧ N ≤ j ∧ (∀ y ∈ G, y.Good w) ∧ Ca wr base g v bm m f S N ∧ MtC S (kvs G) ∧ New w0 wr
theorem LP.later {w w0 wr w' : World} {base g bm j j' : Nat} {u : Value} (h : LP w w0 base g bm j u wr) (hN : New wr w') (hj : j ≤ j') : LP w w0 base g bm j' u w' := by
  obtain ⟨v, m, f, S, N, G, A, n, c, h1, h2, h3, h4, h5, h6, h7, h8, h9⟩ := h
  exact ⟨v, m, f, S, N, G, A, n, c, h1, h2.new hN, h3, by omega, by omega, h6, h7.new hN, h8, h9.tr hN⟩
/-- What the loop over the clone holds. -/
def LO (w5 : World) (x : Nat) (v : Value) (n : Nat) (wr : World) : Prop := Fr (fun k => k = x) w5 wr ∧ ∃ ys : List Int, wr.ownsRow x 5 1 v n (u8s ys)
theorem find_hd {G : List GC} {a q : Int} {rq : List Int} {x : GC} (h : G.find? (hits a q rq) = some x) : x ∈ G := List.mem_of_find?_eq_some h
end Go.Proofs.Ytpomcnfifhfffaa
