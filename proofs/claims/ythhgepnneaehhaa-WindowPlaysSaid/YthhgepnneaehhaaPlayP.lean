/- What holds of the window and of the reference's window at each round of WindowPlays. No condition. -/
import Derived.Test.YthhgepnneaehhaaSame
namespace Go.Proofs.Ythhgepnneaehhaa.Wi
open Go.Proofs.Ythhgepnneaehhaa
open Go.RowKit

/-- What is known of the things that wait, in plain words. -/
structure Good (L : List Wt) (next : Int) (k : Nat) (most : Int) : Prop where
  th : ∀ x ∈ L, ∃ a : Int, x.thing = .int .i64 a
  lt : ∀ x ∈ L, x.num < next
  nd : (L.map Wt.num).Nodup
  len : L.length ≤ k
  lo : 0 ≤ next
  hi : next ≤ k
  most : (L.length : Int) ≤ most

theorem Good.none {L : List Wt} {next : Int} {k : Nat} {most : Int} (h : Good L next k most) : place L next = none :=
  place_none fun j hj e => by have := h.lt _ (List.getElem_mem hj); omega
theorem Good.nil (most : Int) (h : 0 ≤ most) : Good [] 0 0 most := ⟨by simp, by simp, by simp, by simp, by omega, by simp, by simpa using h⟩
theorem Good.up {L : List Wt} {next : Int} {k : Nat} {most : Int} (h : Good L next k most) : Good L next (k + 1) most :=
  ⟨h.th, h.lt, h.nd, by have := h.len; omega, h.lo, by have := h.hi; omega, h.most⟩
theorem Good.add {L : List Wt} {next : Int} {k : Nat} {most : Int} (h : Good L next k most) (x : Int) (hm : (L.length : Int) < most) : Good (L ++ [⟨next, .int .i64 x, 0, false⟩]) (next + 1) (k + 1) most := by
  refine ⟨?_, ?_, ?_, ?_, ?_, ?_, ?_⟩
  · intro y hy
    rcases List.mem_append.1 hy with hy | hy
    · exact h.th y hy
    · obtain rfl := List.mem_singleton.1 hy
      exact ⟨x, rfl⟩
  · intro y hy
    rcases List.mem_append.1 hy with hy | hy
    · have := h.lt y hy; omega
    · obtain rfl := List.mem_singleton.1 hy
      show next < next + 1
      omega
  · rw [List.map_append, List.nodup_append]
    refine ⟨h.nd, by simp, ?_⟩
    intro a ha b hb
    obtain ⟨y, hy, rfl⟩ := List.mem_map.1 ha
    have hb' : b = next := by simpa using hb
    have := h.lt y hy
    omega
  · have := h.len; simp; omega
  · have := h.lo; omega
  · have := h.hi; omega
  · simp; omega
theorem map_set_num (L : List Wt) (i : Nat) (x : Wt) : (L.set i x).map Wt.num = (L.map Wt.num).set i x.num := by rw [List.map_set]
theorem Good.answer {L : List Wt} {next : Int} {k : Nat} {most : Int} (h : Good L next k most) {i : Nat} (hi : i < L.length) (x : Int) : Good (L.set i { L[i] with ans := x, done := true }) next (k + 1) most := by
  refine ⟨?_, ?_, ?_, ?_, h.lo, by have := h.hi; omega, by simpa using h.most⟩
  · intro y hy
    rcases List.mem_or_eq_of_mem_set hy with hy | rfl
    · exact h.th y hy
    · exact h.th L[i] (List.getElem_mem hi)
  · intro y hy
    rcases List.mem_or_eq_of_mem_set hy with hy | rfl
    · exact h.lt y hy
    · exact h.lt L[i] (List.getElem_mem hi)
  · rw [map_set_num]
    have : (L.map Wt.num).set i L[i].num = L.map Wt.num := by
      rw [show L[i].num = (L.map Wt.num)[i]'(by simpa using hi) by simp, List.set_getElem_self]
    rw [show ({ L[i] with ans := x, done := true } : Wt).num = L[i].num from rfl, this]
    exact h.nd
  · have := h.len; simp; omega
theorem nodup_set_new {l : List Int} {i : Nat} {a : Int} (h : l.Nodup) (ha : a ∉ l) : (l.set i a).Nodup := by
  rw [List.nodup_iff_pairwise_ne, List.pairwise_iff_getElem] at *
  intro p q hp hq hpq
  simp only [List.length_set] at hp hq
  rw [List.getElem_set, List.getElem_set]
  split <;> split
  · omega
  · intro e; exact ha (e ▸ List.getElem_mem _)
  · intro e; exact ha (e ▸ List.getElem_mem _)
  · exact h p q hp hq hpq
theorem Good.renew {L : List Wt} {next : Int} {k : Nat} {most : Int} (h : Good L next k most) {i : Nat} (hi : i < L.length) (x : Int) : Good (L.set i ⟨next, .int .i64 x, 0, false⟩) (next + 1) (k + 1) most := by
  refine ⟨?_, ?_, ?_, ?_, by have := h.lo; omega, by have := h.hi; omega, by simpa using h.most⟩
  · intro y hy
    rcases List.mem_or_eq_of_mem_set hy with hy | rfl
    · exact h.th y hy
    · exact ⟨x, rfl⟩
  · intro y hy
    rcases List.mem_or_eq_of_mem_set hy with hy | rfl
    · have := h.lt y hy; omega
    · show next < next + 1
      omega
  · rw [map_set_num]
    refine nodup_set_new h.nd fun hm => ?_
    obtain ⟨y, hy, e⟩ := List.mem_map.1 hm
    have := h.lt y hy
    have e' : y.num = next := e
    omega
  · have := h.len; simp; omega
theorem Good.next {x : Wt} {L : List Wt} {next : Int} {k : Nat} {most : Int} (h : Good (x :: L) next k most) : Good L next (k + 1) most := by
  refine ⟨fun y hy => h.th y (List.mem_cons_of_mem _ hy), fun y hy => h.lt y (List.mem_cons_of_mem _ hy), ?_, ?_, h.lo, by have := h.hi; omega, ?_⟩
  · have := h.nd
    rw [List.map_cons, List.nodup_cons] at this
    exact this.2
  · have := h.len; simp at this; omega
  · have := h.most; simp at this; omega

/-- The blocks where the reference's list may lie. -/
def PB (g bm : Nat) (v : Value) (b : Nat) : Prop := b ≠ g ∧ b ≠ bm ∧ v.ownBlock ≠ some b

/-- What is known of memory. -/
structure PI (w : World) (g bm : Nat) (most : Int) (wr : World) (v : Value) (L : List Wt) (next : Int) (A : Option Addr) (c : Nat) : Prop where
  win : Win wr w.heap.size g v L most next
  box : Blk wr bm 49 #[.slice A L.length c, .int .u64 next]
  rd : Rd (PB g bm v) wr 4 A L.length (flat L)
  lc : L.length ≤ c
  cm : c ≤ maxLen
  new : New w wr
  bw : w.heap.size ≤ bm

def PInv (w : World) (g bm : Nat) (most : Int) (k : Nat) (wr : World) : Prop := ∃ v L next A c, PI w g bm most wr v L next A c ∧ Good L next k most

/-- The window has been written at will, and the reference's list is another one, which lies in new memory or where the elder one lay. -/
theorem PI.mk' {w wr w2 : World} {g bm : Nat} {most : Int} {v v' : Value} {L L' : List Wt} {next next' : Int} {A A' : Option Addr} {c c' : Nat} (h : PI w g bm most wr v L next A c)
    (hW : Win w2 w.heap.size g v' L' most next') (hb : Blk w2 bm 49 #[.slice A' L'.length c', .int .u64 next']) (hn : New w w2)
    (hr : Rd (PB g bm v') w2 4 A' L'.length (flat L')) (h1 : L'.length ≤ c') (h2 : c' ≤ maxLen) : PI w g bm most w2 v' L' next' A' c' := ⟨hW, hb, hr, h1, h2, hn, h.bw⟩
theorem PI.later {w wr w2 : World} {g bm : Nat} {most : Int} {v : Value} {L : List Wt} {next : Int} {A : Option Addr} {c : Nat} (h : PI w g bm most wr v L next A c) (hn : New wr w2) : PI w g bm most w2 v L next A c :=
  ⟨h.win.below hn, hn.blk h.box, hn.rd h.rd, h.lc, h.cm, h.new.tr hn, h.bw⟩
theorem PI.newOf {w wr w1 : World} {g bm : Nat} {most : Int} {v : Value} {L : List Wt} {next : Int} {A : Option Addr} {c : Nat} (h : PI w g bm most wr v L next A c)
    (hf : Fr (fun k => k = g ∨ v.ownBlock = some k) wr w1) : New w w1 :=
  h.new.fr hf fun k hk => by
    rcases hk with rfl | hk
    · exact h.win.1
    · exact (own_lt h.win.2.2.1 k hk).1
theorem PI.gm {w wr : World} {g bm : Nat} {most : Int} {v : Value} {L : List Wt} {next : Int} {A : Option Addr} {c : Nat} (h : PI w g bm most wr v L next A c) : bm ≠ g ∧ v.ownBlock ≠ some bm :=
  ⟨fun e => Blk.ne_ h.box h.win.2.1 (by decide) e, fun e => own_ne h.win.2.2.1 h.box (by decide) e⟩
/-- The reference's list behind a write of the window. -/
theorem PI.rdOf {w wr w1 : World} {g bm : Nat} {most : Int} {v v' : Value} {L : List Wt} {next : Int} {A : Option Addr} {c : Nat} (h : PI w g bm most wr v L next A c)
    (hf : Fr (fun k => k = g ∨ v.ownBlock = some k) wr w1) (hv : ∀ k, v'.ownBlock = some k → v.ownBlock = some k ∨ wr.heap.size ≤ k) : Rd (PB g bm v') w1 4 A L.length (flat L) := by
  refine ⟨h.rd.1, fun hn => ?_⟩
  obtain ⟨ad, e, hp, hb, hc⟩ := h.rd.2 hn
  refine ⟨ad, e, ⟨hp.1, hp.2.1, fun he => ?_⟩, Nat.lt_of_lt_of_le hb hf.size, fun j u hu => ?_⟩
  · rcases hv _ he with h' | h'
    · exact hp.2.2 h'
    · omega
  · have := hc j u hu
    rwa [← hf.cell (p := ad.add j) (by rw [add_block]; exact hb) (by rw [add_block]; rintro (h' | h'); exact hp.1 h'; exact hp.2.2 h')] at this
theorem PI.boxOf {w wr w1 : World} {g bm : Nat} {most : Int} {v : Value} {L : List Wt} {next : Int} {A : Option Addr} {c : Nat} (h : PI w g bm most wr v L next A c)
    (hf : Fr (fun k => k = g ∨ v.ownBlock = some k) wr w1) : Blk w1 bm 49 #[.slice A L.length c, .int .u64 next] :=
  h.box.fr hf (by rintro (e | e); exact h.gm.1 e; exact h.gm.2 e)
/-- New memory is none of the window's. -/
theorem rd_newPB {w w2 : World} {g bm B n s : Nat} {v : Value} {A : Option Addr} {xs : List Value} (h : Rd (fun b => B ≤ b ∧ b < w.heap.size) w s A n xs) (hg : g < B) (hm : bm < B) (hv : ∀ k, v.ownBlock = some k → k < B)
    (hf : Fr (fun k => k = bm) w w2) : Rd (PB g bm v) w2 s A n xs :=
  (h.fr hf (fun k hk e => by omega)).imp fun k hk => ⟨by omega, by omega, fun e => by have := hv k e; omega⟩
theorem win_set2 {w2 : World} {base g bm : Nat} {v : Value} {L : List Wt} {most next : Int} (h : Win w2 base g v L most next) (h1 : bm ≠ g) (h2 : v.ownBlock ≠ some bm) (X Y : Value) :
    Win ((w2.setCell ⟨bm, 0, none⟩ X).setCell ⟨bm, 1, none⟩ Y) base g v L most next :=
  h.fr (S := fun k => k = bm) (Fr.set2 (S := fun k => k = bm) (Fr.refl _ w2) (fun _ => rfl) X Y) (fun e => h1 e.symm) (fun k hk e => h2 (e ▸ hk))
/-- The window first, then the reference: what is stored is its list. -/
theorem PI.stored {w wr w1 w2 : World} {g bm : Nat} {most : Int} {v v' : Value} {L L' : List Wt} {next next' : Int} {A A' : Option Addr} {c c' n' : Nat} (h : PI w g bm most wr v L next A c)
    (hW : Win w1 w.heap.size g v' L' most next') (hf : Fr (fun k => k = g ∨ v.ownBlock = some k) wr w1) (hv : ∀ k, v'.ownBlock = some k → v.ownBlock = some k ∨ wr.heap.size ≤ k)
    (hn : New w1 w2) (hL : L'.length = n') (hrd : Rd (fun b => w1.heap.size ≤ b ∧ b < w2.heap.size) w2 4 A' n' (flat L')) (h1 : n' ≤ c') (h2 : c' ≤ maxLen) :
    PI w g bm most ((w2.setCell ⟨bm, 0, none⟩ (.slice A' n' c')).setCell ⟨bm, 1, none⟩ (.int .u64 next')) v' L' next' A' c' := by
  subst hL
  have hgm := h.gm
  have hbl := h.box.lt
  have hb2 := hn.blk (h.boxOf hf)
  have hvm : v'.ownBlock ≠ some bm := fun e => by
    rcases hv bm e with h' | h'
    · exact hgm.2 h'
    · omega
  refine ⟨win_set2 (hW.below hn) hgm.1 hvm _ _, blk_set2 hb2 _ _, ?_, h1, h2, ?_, h.bw⟩
  · refine rd_newPB hrd ?_ ?_ ?_ (Fr.set2 (S := fun k => k = bm) (Fr.refl _ w2) (fun _ => rfl) _ _)
    · exact hW.2.1.lt
    · exact (h.boxOf hf).lt
    · exact fun k hk => (own_lt hW.2.2.1 k hk).2
  · exact (((h.newOf hf).tr hn).set (by exact h.bw) _).set (by exact h.bw) _
theorem PI.same2 {w wr w2 : World} {g bm : Nat} {most : Int} {v : Value} {L : List Wt} {next : Int} {A : Option Addr} {c : Nat} (h : PI w g bm most wr v L next A c) (hn : New wr w2) :
    PI w g bm most ((w2.setCell ⟨bm, 0, none⟩ (.slice A L.length c)).setCell ⟨bm, 1, none⟩ (.int .u64 next)) v L next A c := by
  have h2 := h.later hn
  refine ⟨win_set2 h2.win h2.gm.1 h2.gm.2 _ _, blk_set2 h2.box _ _, ?_, h.lc, h.cm, (h2.new.set (by exact h.bw) _).set (by exact h.bw) _, h.bw⟩
  exact h2.rd.fr (Fr.set2 (S := fun k => k = bm) (Fr.refl _ w2) (fun _ => rfl) _ _) (fun k hk e => hk.2.1 e)
/-- The window alone has been written; the lists are as long. -/
theorem PI.written {w wr w1 : World} {g bm : Nat} {most : Int} {v v' : Value} {L L' : List Wt} {next next' : Int} {A : Option Addr} {c : Nat} (h : PI w g bm most wr v L next A c)
    (hW : Win w1 w.heap.size g v' L' most next') (hf : Fr (fun k => k = g ∨ v.ownBlock = some k) wr w1) (hv : ∀ k, v'.ownBlock = some k → v.ownBlock = some k ∨ wr.heap.size ≤ k) (he : (L', next') = (L, next)) : PI w g bm most w1 v' L next A c := by
  injection he with h1 h2
  subst h1 h2
  exact ⟨hW, h.boxOf hf, h.rdOf hf hv, h.lc, h.cm, h.newOf hf, h.bw⟩
theorem rwin_len {B : Nat} {w : World} {v : Value} {L : List Wt} {n : Nat} {nx : Int} (h : Rf.RWin B w v L nx) (hL : L.length = n) :
    ∃ A c, v = .agg #[.slice A n c, .int .u64 nx] ∧ Rd (fun b => B ≤ b ∧ b < w.heap.size) w 4 A n (flat L) ∧ n ≤ c ∧ c ≤ maxLen := by
  subst hL
  exact h
theorem answer_yes' (A : Option Addr) (c : Nat) (nx a x : Int) (L : List Wt) (w : World) (hR : Rd (fun b => b < w.heap.size) w 4 A L.length (flat L)) (h1 : ∀ u ∈ flat L, u.oneCell' = true) (hn : L.length ≤ 1000)
    (i : Nat) (hi : i < L.length) (hq : placeI L a = i) (hd : L[i].done = false) :
    Calls Try.prog 16 #[.agg #[.slice A L.length c, .int .u64 nx], .int .u64 a, .int .i64 x] w fun e w' => (∃ A' c', e = .returned (.tuple #[.agg #[.slice A' L.length c', .int .u64 nx], .bool true]) ∧
      Rd (fun b => w.heap.size ≤ b ∧ b < w'.heap.size) w' 4 A' L.length (flat (L.set i { L[i] with ans := x, done := true })) ∧ L.length ≤ c' ∧ c' ≤ maxLen) ∧ New w w' :=
  (Rf.answer_yes A L.length c nx a x L w rfl hR h1 hn i hi hq hd).mono fun e w' ⟨⟨v, he, hw⟩, hN⟩ => by
    obtain ⟨A', c', rfl, r⟩ := rwin_len hw (List.length_set ..)
    exact ⟨⟨A', c', he, r⟩, hN⟩
theorem renew_yes' (A : Option Addr) (c : Nat) (nx a x : Int) (L : List Wt) (w : World) (hR : Rd (fun b => b < w.heap.size) w 4 A L.length (flat L)) (h1 : ∀ u ∈ flat L, u.oneCell' = true) (hn : L.length ≤ 1000)
    (i : Nat) (hi : i < L.length) (hq : placeI L a = i) (hnx : IntKind.u64.wrap (nx + 1) = nx + 1) :
    Calls Try.prog 19 #[.agg #[.slice A L.length c, .int .u64 nx], .int .u64 a, .int .i64 x] w fun e w' => (∃ A' c', e = .returned (.tuple #[.agg #[.slice A' L.length c', .int .u64 (nx + 1)], .bool true]) ∧
      Rd (fun b => w.heap.size ≤ b ∧ b < w'.heap.size) w' 4 A' L.length (flat (L.set i ⟨nx, .int .i64 x, 0, false⟩)) ∧ L.length ≤ c' ∧ c' ≤ maxLen) ∧ New w w' :=
  (Rf.renew_yes A L.length c nx a x L w rfl hR h1 hn i hi hq hnx).mono fun e w' ⟨⟨v, he, hw⟩, hN⟩ => by
    obtain ⟨A', c', rfl, r⟩ := rwin_len hw (List.length_set ..)
    exact ⟨⟨A', c', he, r⟩, hN⟩
theorem answer_cases (L : List Wt) (a x : Int) : (∃ i, ∃ hi : i < L.length, place L a = some i ∧ L[i].done = false) ∨
    (answerL L a x = (L, false) ∧ (placeI L a = -1 ∨ ∃ i : Nat, ∃ hi : i < L.length, placeI L a = i ∧ L[i].done = true)) := by
  rcases hp : place L a with _ | i
  · exact .inr ⟨answerL_none hp, .inl (placeI_none hp)⟩
  · obtain ⟨hi, _⟩ := place_lt hp
    cases hd : L[i].done
    · exact .inl ⟨i, hi, rfl, hd⟩
    · exact .inr ⟨answerL_done hp hi hd, .inr ⟨i, hi, placeI_some hp, hd⟩⟩
/-- The reference first, what it gave is stored, then the window. -/
theorem PI.turned {w wr w4 w5 : World} {g bm : Nat} {most : Int} {v : Value} {L L' : List Wt} {next : Int} {A A' : Option Addr} {c c' n' : Nat} (h : PI w g bm most wr v L next A c) (hn : New wr w4) (hL : L'.length = n')
    (hrd : Rd (fun b => wr.heap.size ≤ b ∧ b < w4.heap.size) w4 4 A' n' (flat L')) (h1 : n' ≤ c') (h2 : c' ≤ maxLen) (o : Obj)
    (hW : Win w5 w.heap.size g v L' most next)
    (hf : Fr (fun k => v.ownBlock = some k) (((w4.alloc o).setCell ⟨bm, 0, none⟩ (.slice A' n' c')).setCell ⟨bm, 1, none⟩ (.int .u64 next)) w5) : PI w g bm most w5 v L' next A' c' := by
  subst hL
  have h4 := h.later (hn.al o)
  have hgm := h.gm
  have hlt := h.box.lt
  refine ⟨hW, (blk_set2 h4.box _ _).fr hf hgm.2, ?_, h1, h2, ?_, h.bw⟩
  · refine (((New.al (New.refl w4) o).rd hrd).fr (Fr.set2 (S := fun k => k = bm) (Fr.refl _ _) (fun _ => rfl) _ _) (fun k hk e => by omega)).fr hf (fun k hk e => ?_) |>.imp (fun k hk => ⟨?_, ?_, fun e => ?_⟩)
    · have := (own_lt h.win.2.2.1 k e).2; omega
    · have := h.win.2.1.lt; omega
    · omega
    · have := (own_lt h.win.2.2.1 k e).2; omega
  · have hx : New w (((w4.alloc o).setCell ⟨bm, 0, none⟩ (.slice A' L'.length c')).setCell ⟨bm, 1, none⟩ (.int .u64 next)) := (h4.new.set (by exact h.bw) _).set (by exact h.bw) _
    exact hx.fr hf fun k hk => (own_lt h.win.2.2.1 k hk).1
/-- One has gone. -/
theorem PI.taken {w wr w1 : World} {g bm : Nat} {most : Int} {v v' : Value} {x : Wt} {r : List Wt} {next : Int} {A A' : Option Addr} {c : Nat} (h : PI w g bm most wr v (x :: r) next A c)
    (hW : Win w1 w.heap.size g v' r most next) (hf : Fr (fun k => k = g ∨ v.ownBlock = some k) wr w1) (hv : v'.ownBlock = v.ownBlock) (hA : A' = if c = 1 then A else A.map (·.add 4)) :
    PI w g bm most (w1.setCell ⟨bm, 0, none⟩ (.slice A' r.length (c - 1))) v' r next A' (c - 1) := by
  subst hA
  have hlc := h.lc
  have hcm := h.cm
  simp at hlc
  have hgm := h.gm
  have hbx := h.boxOf hf
  have hb := hbx.set 0 (.slice (if c = 1 then A else A.map (·.add 4)) r.length (c - 1))
  refine ⟨hW.fr (S := fun k => k = bm) ((Fr.refl (fun k => k = bm) w1).setCell (p := ⟨bm, 0, none⟩) (fun _ => rfl) _) (fun e => hgm.1 e.symm) (fun k hk e => hgm.2 (by rw [← hv, hk, e])), by simpa using hb, ?_, by omega, by omega, ?_, h.bw⟩
  · have hr := (h.rdOf (v' := v') hf (fun k hk => .inl (by rw [← hv]; exact hk))).drop (k := 1) (cap := c) (by simp) (by simp; omega)
    have e1 : (flat (x :: r)).drop (1 * 4) = flat r := by simp [flat, Wt.cells]
    rw [e1] at hr
    exact hr.fr ((Fr.refl (fun k => k = bm) w1).setCell (p := ⟨bm, 0, none⟩) (fun _ => rfl) _) (fun k hk e => hk.2.1 e)
  · exact (h.newOf hf).set (by exact h.bw) _
end Go.Proofs.Ythhgepnneaehhaa.Wi
