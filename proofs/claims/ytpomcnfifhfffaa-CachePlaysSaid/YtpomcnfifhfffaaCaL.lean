/- What a cache finds, in plain words. No program in sight. -/
import Derived.Test.YtpomcnfifhfffaaCaP
namespace Go.Proofs.Ytpomcnfifhfffaa

/-- An act's key and what it keeps. -/
structure KV where
  id : Int
  seq : Int
  req : List Int
  rep : List Int
/-- What is kept is the last act's of its key. -/
def LastOf (K : List KV) (a q : Int) (rq rp : List Int) : Prop :=
  ∃ (i : Nat) (hi : i < K.length), K[i].id = a ∧ K[i].seq = q ∧ K[i].req = rq ∧ K[i].rep = rp ∧ ∀ (j : Nat) (hj : j < K.length), i < j → ¬ (K[j].id = a ∧ K[j].seq = q)
theorem LastOf.add {K : List KV} {a q : Int} {rq rp : List Int} (h : LastOf K a q rq rp) (x : KV) (hx : ¬ (x.id = a ∧ x.seq = q)) : LastOf (K ++ [x]) a q rq rp := by
  obtain ⟨i, hi, h1, h2, h3, h4, h5⟩ := h
  refine ⟨i, by simp; omega, ?_⟩
  rw [List.getElem_append_left hi]
  refine ⟨h1, h2, h3, h4, fun j hj hij => ?_⟩
  by_cases hlt : j < K.length
  · rw [List.getElem_append_left hlt]; exact h5 j hlt hij
  · simp at hj
    obtain rfl : j = K.length := by omega
    simpa using hx
theorem LastOf.new (K : List KV) (x : KV) : LastOf (K ++ [x]) x.id x.seq x.req x.rep := by
  refine ⟨K.length, by simp, ?_⟩
  simp
  intro j hj hij
  omega
/-- Every reply that the sessions hold is the last of its key. -/
def Holds (K : List KV) (S : List Ses) : Prop := ∀ s ∈ S, ∀ r ∈ s.R, LastOf K s.id r.seq r.req r.rep
theorem Holds.nil (K : List KV) : Holds K [] := fun s hs => by cases hs
theorem Holds.keep {K : List KV} {S : List Ses} (h : Holds K S) (x : KV) (s' : Ses) (hid : s'.id = x.id) (hR : (∃ s ∈ S, s.id = x.id ∧ s'.R = keepR s.R x.seq x.req x.rep) ∨ s'.R = keepR [] x.seq x.req x.rep) :
    Holds (K ++ [x]) (keptL Ses.id S x.id 8 ++ [s']) := by
  intro s hs r hr
  rcases List.mem_append.1 hs with hs | hs
  · obtain ⟨h1, h2⟩ := keptL_mem hs
    exact (h s h1 r hr).add x fun e => h2 e.1.symm
  · obtain rfl := List.mem_singleton.1 hs
    have key : ∀ R0 : List Rep, (∀ r ∈ R0, LastOf K x.id r.seq r.req r.rep) → r ∈ keepR R0 x.seq x.req x.rep → LastOf (K ++ [x]) s.id r.seq r.req r.rep := by
      intro R0 h0 hm
      rcases List.mem_append.1 hm with hm | hm
      · obtain ⟨h1, h2⟩ := keptL_mem hm
        rw [hid]
        exact (h0 r h1).add x fun e => h2 e.2.symm
      · obtain rfl := List.mem_singleton.1 hm
        rw [hid]
        exact LastOf.new K x
    rcases hR with ⟨t, ht, e1, e2⟩ | e
    · rw [e2] at hr
      exact key t.R (fun r hr => by rw [← e1]; exact h t ht r hr) hr
    · rw [e] at hr
      exact key [] (fun r hr => by cases hr) hr
end Go.Proofs.Ytpomcnfifhfffaa
