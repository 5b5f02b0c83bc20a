/- Texts of one proof, one behind the other: KvY, KvZ, Qt, KvS. No condition but each one's own. -/
import Derived.Test.YtfhinmjpokollaaKvBytesM12
import Derived.Test.YtfhinmjpokollaaKvBytesM3
import Derived.StillTail
import Derived.Test.YtfhinmjpokollaaKvBytesM9
/- The reference's Put: the same bytes. No condition but that the changes can be read. -/
namespace Go.Proofs.Ytfhinmjpokollaa
set_option linter.unusedVariables false
set_option linter.unusedSimpArgs false
set_option linter.constructorNameAsVariable false
open Go.RowKit Go.Maps Go.Sort

/-- What an append to bytes of the call's own leaves. -/
def ApSays (w : World) (base : Nat) (old : Value) (bs : List Int) (A : Option Addr) (n c : Nat) (w' : World) : Prop :=
  w'.ownsRow base 5 1 (.slice A n c) n (u8s bs) ∧ Fr (fun k => old.ownBlock = some k) w w' ∧ ∀ k, (Value.slice A n c).ownBlock = some k → old.ownBlock = some k ∨ w.heap.size ≤ k
theorem u8s_app (xs ys : List Int) : u8s (xs ++ ys) = u8s xs ++ u8s ys := by simp [u8s]
set_option maxHeartbeats 2000000 in
theorem rfield_any {base : Nat} {w : World} {p : Nat → Prop} (A : Option Addr) (n c : Nat) (bs : List Int) (hO : w.ownsRow base 5 1 (.slice A n c) n (u8s bs)) (hbase : base ≤ w.heap.size) (B : Option Addr) (m d : Nat) (xs : List Int) (hR : Rd p w 1 B m (u8s xs)) (hp : ∀ k, p k → k < base) (hn : n + m ≤ 100000000) :
    Calls Try.prog 43 #[.slice A n c, .slice B m d] w fun e w' => (∃ A' c', e = .returned (.slice A' (n + 2 + m) c') ∧ ApSays w base (.slice A n c) (bs ++ beL 2 m ++ xs) A' (n + 2 + m) c' w') := by
  have HO := Lib.hid hO
  have HR := Lib.hid hR
  have HP := Lib.hid hp
  have HB := Lib.hid hbase
  clear hO hR hp hbase
  go_enter Try.func43, Try.ntmps43
  go_wp2_with fail
  refine (number_any m 2 w (by omega) (by omega)).mono ?_
  rintro e w1 ⟨rfl, hO1, hN1⟩
  have HO1 := Lib.hid hO1
  have HN1 := Lib.hid hN1
  clear hO1 hN1
  go_wp2_with (at_builtin; refine atOpS ⟨some 10, _, _, _, _, _⟩ ?_; refine stopHere ?_)
  refine ⟨?_⟩
  refine wpList_app (o := ⟨some 10, _, _, _, _, _⟩) elB _ rfl (.tmp 5) (.tmp 9) rfl base (.slice A n c) n (u8s bs) rfl (HN1.out.own HO.out) _ 2 2 (u8s (beL 2 m)) rfl (Rd.own HO1.out rfl) (u8s_one _) (by unfold maxLen; omega) (by omega) (Nat.le_trans HB.out HN1.out.size) ?_
  intro A2 d2 w3 hO3 hF3 hA3
  have HO3 := Lib.hid hO3
  have HF3 := Lib.hid hF3
  have HA3 := Lib.hid hA3
  have HR3 : Hid (Rd p w3 1 B m (u8s xs)) := Lib.hid ((HN1.out.rd HR.out).fr hF3 (fun k hk hs => by have := HP.out k hk; have := (own_lt HO.out k hs).1; omega))
  clear hO3 hF3 hA3
  go_wp2_with (at_builtin; refine atOpS ⟨some 12, _, _, _, _, _⟩ ?_; refine stopHere ?_)
  refine ⟨?_⟩
  refine wpList_app (o := ⟨some 12, _, _, _, _, _⟩) elB _ rfl (.tmp 10) (.tmp 11) rfl base (.slice A2 (n + 2) d2) (n + 2) (u8s bs ++ u8s (beL 2 m)) rfl HO3.out _ m d (u8s xs) rfl HR3.out (u8s_one _) (by unfold maxLen; omega) (by omega) (by have := HF3.out.size; have := HN1.out.size; have := HB.out; omega) ?_
  intro A4 d4 w5 hO5 hF5 hA5
  have HO5 := Lib.hid hO5
  have HF5 := Lib.hid hF5
  have HA5 := Lib.hid hA5
  clear hO5 hF5 hA5
  go_wp2_with fail
  go_ret
  refine ⟨A4, d4, rfl, ?_, ?_, ?_⟩
  · rw [u8s_app, u8s_app]
    exact HO5.out
  · refine ((HN1.out.toFr _).trans HF3.out).trans' HF5.out (fun k hk hs => ?_)
    rcases HA3.out k hs with h | h
    · exact h
    · have := HN1.out.size; omega
  · intro k hk
    rcases HA5.out k hk with h | h
    · rcases HA3.out k h with h | h
      · exact .inl h
      · exact .inr (Nat.le_trans HN1.out.size h)
    · exact .inr (Nat.le_trans HN1.out.size (Nat.le_trans HF3.out.size h))
/-- The cells of one element. -/
def BoxK (g o : Nat) (k v : Value) (w : World) : Prop := w.cell? ⟨g, o, none⟩ = some k ∧ w.cell? ⟨g, o + 1, none⟩ = some v
theorem BoxK.fr {g o : Nat} {k v : Value} {w w' : World} {S : Nat → Prop} (h : BoxK g o k v w) (hF : Fr S w w') (hs : ¬ S g) : BoxK g o k v w' := ⟨hF.cell_some h.1 hs, hF.cell_some h.2 hs⟩
set_option maxHeartbeats 8000000 in
set_option maxRecDepth 100000 in
theorem rput_any (A : Option Addr) (n c : Nat) (L : List Ch) (w : World) (h : RTb w A n L) (hn : n ≤ 1000) (hs : ∀ c ∈ L, c.k.n ≤ 16 ∧ c.v.n ≤ 16384) :
    Calls Try.prog 26 #[.slice A n c] w fun e w' => (∃ A' c', e = .returned (.slice A' (putB L).length c') ∧ w'.ownsRow w.heap.size 5 1 (.slice A' (putB L).length c') (putB L).length (u8s (putB L))) ∧ New w w' := by
  have H := Lib.hid h
  have HS := Lib.hid hs
  have hcl : ∀ c ∈ L, (chB c).length ≤ 40000 := fun c hc => by
    have h1 := chB_len (h.el c hc).k.len (h.el c hc).v.len
    have := hs c hc
    omega
  have HCL := Lib.hid hcl
  clear h hs hcl
  go_enter Try.func26, Try.ntmps26
  go_wp2_with fail
  refine (number_any n 2 w (by omega) (by omega)).mono ?_
  rintro e w1 ⟨rfl, hO1, hN1⟩
  have HO1 : Hid (w1.ownsRow w.heap.size 5 1 (.slice (some ⟨w.heap.size, 0, none⟩) 2 2) 2 (u8s (beL 2 n ++ (L.take 0).flatMap chB))) := Lib.hid (by simpa using hO1)
  have HN1 := Lib.hid hN1
  clear hO1 hN1
  go_wp2_with fail
  go_loopw [3, 4] (fun b i wr => ∃ (j m : Nat) (A' : Option Addr) (c' : Nat), j ≤ n ∧ i = .int .i64 j ∧ b = .slice A' m c' ∧ Hid (wr.ownsRow w.heap.size 5 1 (.slice A' m c') m (u8s (beL 2 n ++ (L.take j).flatMap chB))) ∧ Hid (New w wr)) (fun b i _ => n - (intOf i).toNat)
  case atStart => exact ⟨0, 2, _, _, Nat.zero_le _, rfl, rfl, HO1, HN1⟩
  case round =>
    obtain ⟨j, m, A', c', hj, rfl, rfl, HO, HN⟩ := hrel
    clear HO1 HN1
    obtain ⟨bs, hbs⟩ : ∃ bs, bs = beL 2 n ++ (L.take j).flatMap chB := ⟨_, rfl⟩
    rw [← hbs] at HO
    have hm : m ≤ 50000000 := by
      have h1 := HO.out.1
      rw [u8s_len, hbs, List.length_append, beL_len] at h1
      have := flat_len HCL.out j (by rw [H.out.len]; exact hj)
      omega
    have HBS := Lib.hid hbs
    clear hbs
    by_cases hlt : j < n
    · as_aux_lemma =>
      obtain ⟨gA, o, hl, rfl, hgp, -, hrg⟩ := rd_row (f := Ch.cells) (L := L) (fun _ => rfl) (by omega) (HN.out.rd H.out.rd) hlt
      have c0 : wr.cell? ⟨gA, o + j * 3, none⟩ = some (.slice L[j].k.A L[j].k.n L[j].k.c) := hrg 0 _ rfl
      have c1 : wr.cell? ⟨gA, o + j * 3 + 1, none⟩ = some (.slice L[j].v.A L[j].v.n L[j].v.c) := hrg 1 _ rfl
      have c2 : wr.cell? ⟨gA, o + j * 3 + 2, none⟩ = some (.bool L[j].d) := hrg 2 _ rfl
      have hin := H.out.el L[j] (List.getElem_mem _)
      have hsz := HS.out L[j] (List.getElem_mem _)
      have hst := putB_take hl
      generalize L[j] = x at c0 c1 c2 hin hsz hst
      obtain ⟨⟨kA, kn, kc, ks⟩, ⟨vA, vn, vc, vs⟩, d⟩ := x
      dsimp only at c0 c1 c2 hsz
      have HIN := Lib.hid hin
      have HST := Lib.hid hst
      have hj0 : (0 : Int) ≤ (j : Int) := by omega
      have hjn : (j : Int) < (n : Int) := by omega
      have hjnN : j < n := hlt
      have HGA : Hid (gA < w.heap.size) := Lib.hid hgp
      clear hrg hl hin hst hgp
      have hS0 : BoxK gA (o + j * 3) (.slice kA kn kc) (.slice vA vn vc) wr.drew := ⟨c0, c1⟩
      have HB0 : Hid (BoxK gA (o + j * 3) (.slice kA kn kc) (.slice vA vn vc) wr) := Lib.hid ⟨c0, c1⟩
      cases d
      · go_wp2_with fail
        refine wp_region_mixH (BoxK gA (o + j * 3) (.slice kA kn kc) (.slice vA vn vc)) [(true, 0), (true, 3), (true, 4), (true, 5), (true, 6), (true, 7), (true, 9), (true, 10), (true, 11), (true, 12), (true, 13), (false, 1), (false, 2), (false, 8), (false, 14), (true, 15)] (by kernel_rfl) (by kernel_rfl) hS0 (fun hne => ?_)
        have q0 : ∀ p : HW (BoxK gA (o + j * 3) (.slice kA kn kc) (.slice vA vn vc)), p.w.cell? ⟨gA, o + j * 3, none⟩ = some (.slice kA kn kc) := fun p => p.h.1
        have q1 : ∀ p : HW (BoxK gA (o + j * 3) (.slice kA kn kc) (.slice vA vn vc)), p.w.cell? ⟨gA, o + j * 3 + 1, none⟩ = some (.slice vA vn vc) := fun p => p.h.2
        iterate 11 (refine mix_take (o := ⟨_, _, _, _, _, _⟩) rfl (fun K hK => ?_); go_simp; refine hK _ ?_; clear hK K)
        clear q0 q1 c0 c1 c2 hS0
        refine mix_act (o := ⟨_, _, _, _, _, _⟩) rfl (fun K hK => ?_) (.inl rfl)
        refine step_bs1v elB rfl (.const (.int .u8 1)) rfl (.int .u8 1) (by rfl) rfl ?_
        intro gb w3 hB3 hN3 hl3
        simp only [Act.put, List.setIfInBounds_toArray, List.set_cons_zero, List.set_cons_succ]
        have HN3 : Hid (New wr w3) := Lib.hid (New.tr (New.dr (New.refl _)) hN3)
        have HB3 := Lib.hid hB3
        refine hK.out _ _ (fun _ => HB0.out.fr (HN3.out.toFr NoB) (fun x => x)) ?_
        clear hK K hB3 hN3 hl3
        refine mix_act (o := ⟨_, _, _, _, _, _⟩) rfl (fun K hK => ?_) (.inl rfl)
        refine step_app elB _ (by rfl) (.tmp 29) (.tmp 30) (by rfl) w.heap.size (.slice A' m c') m (u8s bs) (by rfl) (HN3.out.own HO.out) (some ⟨gb, 0, none⟩) 1 1 (u8s [1]) (by rfl) (Rd.ofBlk (p := fun _ => True) HB3.out 1 1 rfl trivial) (u8s_one _) (by unfold maxLen; omega) (by omega) (Nat.le_trans HN.out.size HN3.out.size) ?_
        intro A4 d4 w4 hO4 hF4 hA4
        simp only [Act.put, List.setIfInBounds_toArray, List.set_cons_zero, List.set_cons_succ]
        rw [← u8s_app] at hO4
        have HO4 := Lib.hid hO4
        have HN4 : Hid (New w w4) := Lib.hid ((HN.out.tr HN3.out).fr hF4 (fun k hk => (own_lt HO.out k hk).1))
        have HS4 : Hid (BoxK gA (o + j * 3) (.slice kA kn kc) (.slice vA vn vc) w4) := Lib.hid ((HB0.out.fr (HN3.out.toFr NoB) (fun x => x)).fr hF4 (fun hk => by have := (own_lt HO.out _ hk).1; have := HGA.out; omega))
        refine hK.out _ _ (fun _ => HS4.out) ?_
        clear hK K hO4 hF4 hA4
        refine mix_act (o := ⟨_, _, _, _, _, _⟩) rfl (fun K hK => ?_) (.inl rfl)
        go_simp
        refine (rfield_any A4 (m + 1) d4 (bs ++ [1]) HO4.out HN4.out.size kA kn kc ks (HN4.out.rd HIN.out.k.rd) (fun k hk => hk) (by omega)).mono ?_
        rintro e w5 ⟨A5, c5, rfl, hO5, hF5, hA5⟩
        have HO5 := Lib.hid hO5
        have HN5 : Hid (New w w5) := Lib.hid (HN4.out.fr hF5 (fun k hk => (own_lt HO4.out k hk).1))
        have HS5 : Hid (BoxK gA (o + j * 3) (.slice kA kn kc) (.slice vA vn vc) w5) := Lib.hid (HS4.out.fr hF5 (fun hk => by have := (own_lt HO4.out _ hk).1; have := HGA.out; omega))
        refine hK.out _ _ (fun _ => HS5.out) ?_
        clear hK K hO5 hF5 hA5
        refine mix_act (o := ⟨_, _, _, _, _, _⟩) rfl (fun K hK => ?_) (.inl rfl)
        go_simp
        refine (rfield_any A5 (m + 1 + 2 + kn) c5 _ HO5.out HN5.out.size vA vn vc vs (HN5.out.rd HIN.out.v.rd) (fun k hk => hk) (by omega)).mono ?_
        rintro e w6 ⟨A6, c6, rfl, hO6, hF6, hA6⟩
        have HO6 := Lib.hid hO6
        have HN6 : Hid (New w w6) := Lib.hid (HN5.out.fr hF6 (fun k hk => (own_lt HO5.out k hk).1))
        refine hK.out _ _ (fun _ => HS5.out.fr hF6 (fun hk => by have := (own_lt HO5.out _ hk).1; have := HGA.out; omega)) ?_
        clear hK K hO6 hF6 hA6
        refine mix_take (o := ⟨_, _, _, _, _, _⟩) rfl (fun K hK => ?_)
        go_simp
        refine hK _ ?_
        clear hK K hne
        refine mix_done ?_
        obtain ⟨m6, hm6⟩ : ∃ m6, m6 = m + 1 + 2 + kn + 2 + vn := ⟨_, rfl⟩
        rw [← hm6] at HO6 ⊢
        clear hm6
        go_wp2_with fail
        go_roundw
        case rel =>
          refine ⟨j + 1, m6, A6, c6, by omega, by go_num, rfl, ?_, HN6⟩
          rw [HST.out]
          have := HO6.out
          rw [HBS.out] at this
          refine Lib.hid ?_
          simpa [chB, List.append_assoc] using this
        case measure => simp [intOf]; omega
      · go_wp2_with fail
        refine wp_region_mixH (BoxK gA (o + j * 3) (.slice kA kn kc) (.slice vA vn vc)) [(true, 0), (true, 3), (true, 4), (true, 5), (true, 6), (true, 7), (false, 1), (false, 2), (false, 8), (true, 9)] (by kernel_rfl) (by kernel_rfl) hS0 (fun hne => ?_)
        have q0 : ∀ p : HW (BoxK gA (o + j * 3) (.slice kA kn kc) (.slice vA vn vc)), p.w.cell? ⟨gA, o + j * 3, none⟩ = some (.slice kA kn kc) := fun p => p.h.1
        iterate 6 (refine mix_take (o := ⟨_, _, _, _, _, _⟩) rfl (fun K hK => ?_); go_simp; refine hK _ ?_; clear hK K)
        clear q0 c0 c1 c2 hS0
        refine mix_act (o := ⟨_, _, _, _, _, _⟩) rfl (fun K hK => ?_) (.inl rfl)
        refine step_bs1v elB rfl (.const (.int .u8 0)) rfl (.int .u8 0) (by rfl) rfl ?_
        intro gb w3 hB3 hN3 hl3
        simp only [Act.put, List.setIfInBounds_toArray, List.set_cons_zero, List.set_cons_succ]
        have HN3 : Hid (New wr w3) := Lib.hid (New.tr (New.dr (New.refl _)) hN3)
        have HB3 := Lib.hid hB3
        refine hK.out _ _ (fun _ => HB0.out.fr (HN3.out.toFr NoB) (fun x => x)) ?_
        clear hK K hB3 hN3 hl3
        refine mix_act (o := ⟨_, _, _, _, _, _⟩) rfl (fun K hK => ?_) (.inl rfl)
        refine step_app elB _ (by rfl) (.tmp 20) (.tmp 21) (by rfl) w.heap.size (.slice A' m c') m (u8s bs) (by rfl) (HN3.out.own HO.out) (some ⟨gb, 0, none⟩) 1 1 (u8s [0]) (by rfl) (Rd.ofBlk (p := fun _ => True) HB3.out 1 1 rfl trivial) (u8s_one _) (by unfold maxLen; omega) (by omega) (Nat.le_trans HN.out.size HN3.out.size) ?_
        intro A4 d4 w4 hO4 hF4 hA4
        simp only [Act.put, List.setIfInBounds_toArray, List.set_cons_zero, List.set_cons_succ]
        rw [← u8s_app] at hO4
        have HO4 := Lib.hid hO4
        have HN4 : Hid (New w w4) := Lib.hid ((HN.out.tr HN3.out).fr hF4 (fun k hk => (own_lt HO.out k hk).1))
        have HS4 : Hid (BoxK gA (o + j * 3) (.slice kA kn kc) (.slice vA vn vc) w4) := Lib.hid ((HB0.out.fr (HN3.out.toFr NoB) (fun x => x)).fr hF4 (fun hk => by have := (own_lt HO.out _ hk).1; have := HGA.out; omega))
        refine hK.out _ _ (fun _ => HS4.out) ?_
        clear hK K hO4 hF4 hA4
        refine mix_act (o := ⟨_, _, _, _, _, _⟩) rfl (fun K hK => ?_) (.inl rfl)
        go_simp
        refine (rfield_any A4 (m + 1) d4 (bs ++ [0]) HO4.out HN4.out.size kA kn kc ks (HN4.out.rd HIN.out.k.rd) (fun k hk => hk) (by omega)).mono ?_
        rintro e w5 ⟨A5, c5, rfl, hO5, hF5, hA5⟩
        have HO5 := Lib.hid hO5
        have HN5 : Hid (New w w5) := Lib.hid (HN4.out.fr hF5 (fun k hk => (own_lt HO4.out k hk).1))
        refine hK.out _ _ (fun _ => HS4.out.fr hF5 (fun hk => by have := (own_lt HO4.out _ hk).1; have := HGA.out; omega)) ?_
        clear hK K hO5 hF5 hA5
        refine mix_take (o := ⟨_, _, _, _, _, _⟩) rfl (fun K hK => ?_)
        go_simp
        refine hK _ ?_
        clear hK K hne
        refine mix_done ?_
        obtain ⟨m6, hm6⟩ : ∃ m6, m6 = m + 1 + 2 + kn := ⟨_, rfl⟩
        rw [← hm6] at HO5 ⊢
        clear hm6
        go_wp2_with fail
        go_roundw
        case rel =>
          refine ⟨j + 1, m6, A5, c5, by omega, by go_num, rfl, ?_, HN5⟩
          rw [HST.out]
          have := HO5.out
          rw [HBS.out] at this
          refine Lib.hid ?_
          simpa [chB, List.append_assoc] using this
        case measure => simp [intOf]; omega
    · as_aux_lemma =>
      obtain rfl : j = n := by omega
      have hp : bs = putB L := by
        rw [HBS.out]
        unfold putB
        rw [← H.out.len, List.take_length]
      rw [hp] at HO
      have hml : m = (putB L).length := by have := HO.out.1; rw [u8s_len] at this; omega
      have HML := Lib.hid hml
      clear hp hml
      go_wp2_with fail
      go_ret
      rw [← HML.out]
      exact ⟨⟨A', c', rfl, HO.out⟩, HN.out⟩
end Go.Proofs.Ytfhinmjpokollaa
/- The reference's Parse: the same batch. (mkrparse.py writes this text.) No condition but that the bytes can be read. -/
namespace Go.Proofs.Ytfhinmjpokollaa
set_option linter.unusedVariables false
set_option linter.unusedSimpArgs false
set_option linter.constructorNameAsVariable false
open Go.RowKit Go.Maps Go.Sort

def rprs : Nat → Rs → List PC → List PC × Rs
  | 0, s, out => (out, s)
  | n + 1, s, out => if s.e = 0 then rprs n (prsStep s).2 (out ++ [(prsStep s).1]) else (out, s)
def rparseB (xs : List Int) : Option (List PC) :=
  if (rprs ((⟨xs, 0⟩ : Rs).num 2).1 ((⟨xs, 0⟩ : Rs).num 2).2 []).2.fin = 0 ∧ pcsOk (rprs ((⟨xs, 0⟩ : Rs).num 2).1 ((⟨xs, 0⟩ : Rs).num 2).2 []).1 = true then some (rprs ((⟨xs, 0⟩ : Rs).num 2).1 ((⟨xs, 0⟩ : Rs).num 2).2 []).1 else none
theorem fin_zero {s : Rs} (h : s.fin = 0) : s.e = 0 := by
  unfold Rs.fin at h
  split at h
  · omega
  · next h0 => omega
theorem bad_fin (s : Rs) : (s.bad 2).fin ≠ 0 := by
  unfold Rs.bad Rs.fin
  split <;> simp_all
theorem bad_e {s : Rs} (h : s.e ≠ 0) (c : Nat) : s.bad c = s := by
  unfold Rs.bad
  rw [if_neg h]
theorem step_err {s : Rs} (h : s.e ≠ 0) : (prsStep s).1.k = [] ∧ (prsStep s).2 = s := by
  unfold prsStep
  rw [flag_err h]
  dsimp only
  rw [if_neg (by decide), bytes_err h]
  exact ⟨rfl, rfl⟩
theorem rprs_err {s : Rs} (h : s.e ≠ 0) (n : Nat) (out : List PC) : rprs n s out = (out, s) := by
  cases n with
  | zero => rfl
  | succ n => unfold rprs; rw [if_neg h]
theorem prs_err {s : Rs} (h : s.e ≠ 0) (n : Nat) (out : List PC) : (prs n s out).2.fin ≠ 0 := by
  cases n with
  | zero =>
    unfold prs Rs.fin
    dsimp only
    rw [if_pos h]
    exact h
  | succ n =>
    unfold prs
    obtain ⟨h1, h2⟩ := step_err h
    rw [if_pos h1]
    exact bad_fin _
/-- Both read the same, wherever one of them takes it. -/
theorem prs_rprs (n : Nat) : ∀ (s : Rs) (out : List PC), s.e = 0 → ((prs n s out).2.fin = 0 ∧ pcsOk (prs n s out).1 = true → rprs n s out = prs n s out) ∧ ((rprs n s out).2.fin = 0 ∧ pcsOk (rprs n s out).1 = true → rprs n s out = prs n s out) := by
  induction n with
  | zero => intro s out _; exact ⟨fun _ => rfl, fun _ => rfl⟩
  | succ n ih =>
    intro s out he
    unfold prs rprs
    rw [if_pos he]
    by_cases hk : (prsStep s).1.k = []
    · rw [if_pos hk]
      refine ⟨fun h => absurd h.1 (bad_fin _), fun h => ?_⟩
      exfalso
      -- a change with an empty key stays in the list, and the list is none
      have key : ∀ (m : Nat) (t : Rs) (o : List PC), (∃ c ∈ o, c.k = []) → pcsOk (rprs m t o).1 = false := by
        intro m
        induction m with
        | zero =>
          intro t o ⟨c, hc, hck⟩
          unfold rprs pcsOk
          have : o.all pcOk = false := by
            cases ha : o.all pcOk with
            | false => rfl
            | true =>
              have h1 := List.all_eq_true.1 ha c hc
              unfold pcOk at h1
              rw [hck] at h1
              simp at h1
          dsimp only
          rw [this]
          simp
        | succ m ihm =>
          intro t o ho
          unfold rprs
          split
          · obtain ⟨c, hc, hck⟩ := ho
            exact ihm _ _ ⟨c, List.mem_append_left _ hc, hck⟩
          · have := ihm t o ho
            rw [rprs_err (by assumption)] at this
            exact this
      have := key n (prsStep s).2 (out ++ [(prsStep s).1]) ⟨_, List.mem_append_right _ (List.mem_singleton_self _), hk⟩
      rw [this] at h
      cases h.2
    · rw [if_neg hk]
      by_cases he2 : (prsStep s).2.e = 0
      · exact ih _ _ he2
      · refine ⟨fun h => absurd h.1 (prs_err he2 n _), fun h => ?_⟩
        rw [rprs_err he2] at h
        exact absurd (fin_zero h.1) he2
theorem rparse_eq (xs : List Int) : rparseB xs = parseB xs := by
  unfold rparseB parseB
  by_cases he : ((⟨xs, 0⟩ : Rs).num 2).2.e = 0
  · obtain ⟨h1, h2⟩ := prs_rprs ((⟨xs, 0⟩ : Rs).num 2).1 ((⟨xs, 0⟩ : Rs).num 2).2 [] he
    by_cases ha : (prs ((⟨xs, 0⟩ : Rs).num 2).1 ((⟨xs, 0⟩ : Rs).num 2).2 []).2.fin = 0 ∧ pcsOk (prs ((⟨xs, 0⟩ : Rs).num 2).1 ((⟨xs, 0⟩ : Rs).num 2).2 []).1 = true
    · rw [h1 ha]
    · by_cases hb : (rprs ((⟨xs, 0⟩ : Rs).num 2).1 ((⟨xs, 0⟩ : Rs).num 2).2 []).2.fin = 0 ∧ pcsOk (rprs ((⟨xs, 0⟩ : Rs).num 2).1 ((⟨xs, 0⟩ : Rs).num 2).2 []).1 = true
      · rw [h2 hb]
      · rw [if_neg ha, if_neg hb]
  · rw [if_neg (fun h => by rw [rprs_err he] at h; exact he (fin_zero h.1)), if_neg (fun h => absurd h.1 (prs_err he _ _))]
/-- What stands in a round of the reference's Parse. -/
structure RrI (p : Nat → Prop) (w : World) (b4 : Nat) (s : Rs) (m : Nat) (A' : Option Addr) (c' : Nat) (L : List Ch) (wr : World) : Prop where
  new : New w wr
  bz : w.heap.size ≤ b4
  rd : ∃ A n c, Blk wr b4 98 #[.slice A n c, .int .i64 s.e] ∧ RIn p wr A n c s
  own : wr.ownsRow w.heap.size 49 3 (.slice A' m c') m (L.flatMap Ch.cells)
  el : ∀ c ∈ L, c.In p wr
  sz : ∀ c ∈ L, c.k.n ≤ 16 ∧ c.v.n ≤ 16384
def RParseSays (r : Option (List PC)) (e : Ending) (w' : World) : Prop :=
  (r = none ∧ e = .returned (.tuple #[.slice none 0 0, .bool false])) ∨
  (∃ (A : Option Addr) (n c : Nat) (L : List Ch), r = some (L.map pcOf) ∧ e = .returned (.tuple #[.slice A n c, .bool true]) ∧ RTb w' A n L)
theorem bytes_le' (s : Rs) (most : Nat) : (s.bytes most).1.length ≤ most := bytes_le s most
set_option maxHeartbeats 16000000 in
set_option maxRecDepth 100000 in
theorem rparse_any {p : Nat → Prop} (A : Option Addr) (n c : Nat) (xs : List Int) (w : World) (hR : Rd p w 1 A n (u8s xs)) (hp : ∀ k, p k → k < w.heap.size) (hb : Byt xs) (hnc : n ≤ c) (hc : c ≤ 140737488355328) :
    Calls Try.prog 32 #[.slice A n c] w fun e w' => RParseSays (rparseB xs) e w' ∧ New w w' := by
  have hRI : RIn p w A n c ⟨xs, 0⟩ := ⟨hR, hb, hnc, hc⟩
  have HRI := Lib.hid hRI
  have HP := Lib.hid hp
  obtain ⟨N, hN⟩ : ∃ N, N = ((⟨xs, 0⟩ : Rs).num 2).1 := ⟨_, rfl⟩
  obtain ⟨s0, hs0⟩ : ∃ s0, s0 = ((⟨xs, 0⟩ : Rs).num 2).2 := ⟨_, rfl⟩
  have hN16 : N < 65536 := by
    rw [hN]
    unfold Rs.num
    have h1 := valL_lt (xs := ((⟨xs, 0⟩ : Rs).raw 2).1) (raw_byt (s := ⟨xs, 0⟩) hb 2)
    have h2 := raw_le (⟨xs, 0⟩ : Rs) 2
    have h3 : 256 ^ ((⟨xs, 0⟩ : Rs).raw 2).1.length ≤ 256 ^ 2 := Nat.pow_le_pow_right (by decide) h2
    exact Nat.lt_of_lt_of_le h1 h3
  obtain ⟨r, hr⟩ : ∃ r, r = rprs N s0 [] := ⟨_, rfl⟩
  obtain ⟨q, hq⟩ : ∃ q, q = rparseB xs := ⟨_, rfl⟩
  rw [← hq]
  unfold rparseB at hq
  rw [← hN, ← hs0, ← hr] at hq
  have HNN := Lib.hid hN
  have HS0 := Lib.hid hs0
  have HRR := Lib.hid hr
  have HQ := Lib.hid hq
  clear hR hb hN hs0 hr hq hRI hp hnc hc
  go_enter Try.func32, Try.ntmps32
  go_upto_region 2 with fail
  obtain ⟨w1, hw1⟩ : ∃ w1 : World, w1 = w.alloc (.cells #[.slice A n c, .int .i64 0] 98) := ⟨_, rfl⟩
  obtain ⟨b4, hb4⟩ : ∃ b4, b4 = w.heap.size := ⟨_, rfl⟩
  have HN1 : Hid (New w w1) := Lib.hid (by rw [hw1]; exact New.al (New.refl _) _)
  have HB1 : Hid (Blk w1 b4 98 #[.slice A n c, .int .i64 0]) := Lib.hid (by rw [hw1, hb4]; exact Blk.new _ _ _)
  have HZ : Hid (w.heap.size ≤ b4) := Lib.hid (by omega)
  rw [← hw1, ← hb4]
  clear hw1 hb4
  have c0 : w1.cell? ⟨b4, 0, none⟩ = some (.slice A n c) := HB1.out.cell 0
  have c1 : w1.cell? ⟨b4, 1, none⟩ = some (.int .i64 0) := HB1.out.cell 1
  have HRD := Lib.hid (read_any (HRI.out.new HN1.out) 2 (by omega) (fun k hk => Nat.lt_of_lt_of_le (HP.out k hk) HN1.out.size))
  unfold rV at HRD
  go_wp2_with fail
  refine HRD.out.mono ?_
  rintro e w2 ⟨⟨A2, n2, c2, rfl, hri⟩, hN2⟩
  rw [← HNN.out]
  rw [← HS0.out] at hri ⊢
  unfold rV
  obtain ⟨e2, he2⟩ : ∃ e2, e2 = s0.e := ⟨_, rfl⟩
  rw [← he2]
  have HE2 := Lib.hid he2
  have HRI2 := Lib.hid hri
  have HN2 := Lib.hid hN2
  have HB2 := Lib.hid (hN2.blk HB1.out)
  clear hri hN2 he2 c0 c1 HRD
  have c0 : w2.cell? ⟨b4, 0, none⟩ = some (.slice A n c) := HB2.out.cell 0
  have c1 : w2.cell? ⟨b4, 1, none⟩ = some (.int .i64 0) := HB2.out.cell 1
  have f0 : w2.frozen? ⟨b4, 0, none⟩ = false := HB2.out.frozen 0
  have f1 : w2.frozen? ⟨b4, 1, none⟩ = false := HB2.out.frozen 1
  go_upto_region 3 with fail
  obtain ⟨w3, hw3⟩ : ∃ w3 : World, w3 = (w2.setCell ⟨b4, 0, none⟩ (.slice A2 n2 c2)).setCell ⟨b4, 1, none⟩ (.int .i64 e2) := ⟨_, rfl⟩
  have hF3 : Fr (fun k => k = b4) w2 w3 := by rw [hw3]; exact ((Fr.refl (fun k => k = b4) w2).setCell (p := ⟨b4, 0, none⟩) (fun _ => rfl) _).setCell (p := ⟨b4, 1, none⟩) (fun _ => rfl) _
  have hpb : ∀ k, p k → ¬ k = b4 := fun k hk e => by have := HP.out k hk; have := HZ.out; omega
  have HPB := Lib.hid hpb
  have HI : Hid (RrI p w b4 s0 0 none 0 [] w3) := Lib.hid ⟨(HN1.out.tr HN2.out).fr hF3 (fun k hk => by have := HZ.out; omega), HZ.out, ⟨A2, n2, c2, by rw [hw3, ← HE2.out]; exact blk_set2 HB2.out _ _, ⟨HRI2.out.rd.fr hF3 hpb, HRI2.out.byt, HRI2.out.nc, HRI2.out.cm⟩⟩, World.ownsRow_nil _ _ _ _, (fun c hc => nomatch hc), fun c hc => nomatch hc⟩
  have HPR : Hid (r = rprs (N - 0) s0 (([] : List Ch).map pcOf)) := Lib.hid HRR.out
  rw [← hw3]
  clear hw3 hF3 hpb c0 c1 f0 f1 HB2 HRI2 HRI
  go_wp2_with fail
  go_loopw [6, 7] (fun o i wr => ∃ (j m : Nat) (s : Rs) (A' : Option Addr) (c' : Nat) (L : List Ch), j ≤ N ∧ m ≤ j ∧ i = .int .i64 j ∧ o = .slice A' m c' ∧ Hid (RrI p w b4 s m A' c' L wr) ∧ Hid (r = rprs (N - j) s (L.map pcOf))) (fun o i _ => N - (intOf i).toNat)
  case atStart => exact ⟨0, 0, s0, none, 0, [], Nat.zero_le _, Nat.le_refl _, rfl, rfl, HI, HPR⟩
  case round =>
    obtain ⟨j, m, s, A', c', L, hj, hm, rfl, rfl, HJ, HPJ⟩ := hrel
    clear HI HPR
    obtain ⟨Ar, nr, cr, hBr, hRr⟩ := HJ.out.rd
    have HBr := Lib.hid hBr
    have HRr := Lib.hid hRr
    clear hBr hRr
    have c1 : wr.cell? ⟨b4, 1, none⟩ = some (.int .i64 s.e) := HBr.out.cell 1
    have c0 : wr.cell? ⟨b4, 0, none⟩ = some (.slice Ar nr cr) := HBr.out.cell 0
    by_cases hgo : j < N ∧ s.e = 0
    · obtain ⟨hlt, he⟩ := hgo
      have hdl : decide ((j : Int) < (N : Int)) = true := decide_eq_true (by omega)
      have hdlN : decide (j < N) = true := decide_eq_true hlt
      rw [he] at c1 HBr
      obtain ⟨i0, hNj⟩ : ∃ i0, N - j = i0 + 1 := ⟨N - j - 1, by omega⟩
      obtain rfl : i0 = N - (j + 1) := by omega
      have HNj := Lib.hid hNj
      have HEZ := Lib.hid he
      have hj0 : (0 : Int) ≤ (j : Int) := by omega
      have HBL := Lib.hid (bool_any HRr.out (fun k hk => Nat.lt_of_lt_of_le (HP.out k hk) HJ.out.new.size))
      unfold rV at HBL
      rw [he] at HBL
      obtain ⟨s1, hs1⟩ : ∃ s1, s1 = s.flag.2 := ⟨_, rfl⟩
      obtain ⟨key, hkey⟩ : ∃ key, key = (s1.bytes 16).1 := ⟨_, rfl⟩
      obtain ⟨s2, hs2⟩ : ∃ s2, s2 = (s1.bytes 16).2 := ⟨_, rfl⟩
      obtain ⟨kn, hkn⟩ : ∃ kn, kn = key.length := ⟨_, rfl⟩
      have HK16 : Hid (kn ≤ 16) := Lib.hid (by rw [hkn, hkey]; exact bytes_le s1 16)
      have HS1 := Lib.hid hs1
      have HKEY := Lib.hid hkey
      have HS2 := Lib.hid hs2
      have HKN := Lib.hid hkn
      clear hNj he hs1 hkey hs2 hkn
      cases hb : s.flag.1
      · as_aux_lemma =>
        have HSTP : Hid (prsStep s = (⟨key, [], true⟩, s2)) := Lib.hid (by unfold prsStep; rw [hb, if_neg (by decide), ← HS1.out, ← HS2.out, ← HKEY.out])
        have HFB := Lib.hid hb
        go_wp2_with fail
        refine HBL.out.mono ?_
        rintro e w4 ⟨⟨A4, n4, c4, rfl, hr4⟩, hN4⟩
        rw [HFB.out]
        rw [← HS1.out] at hr4 ⊢
        unfold rV
        obtain ⟨e4, he4⟩ : ∃ e4, e4 = s1.e := ⟨_, rfl⟩
        rw [← he4]
        have HE4 := Lib.hid he4
        have HR4 := Lib.hid hr4
        have HN4 := Lib.hid hN4
        clear hr4 hN4 he4 HBL c0 c1 hb
        go_upto_region 8 with fail
        obtain ⟨w5, hw5⟩ : ∃ w5 : World, w5 = w4.alloc (.cells #[.slice A4 n4 c4, .int .i64 e4] 98) := ⟨_, rfl⟩
        obtain ⟨b9, hb9⟩ : ∃ b9, b9 = w4.heap.size := ⟨_, rfl⟩
        have HN5 : Hid (New wr w5) := Lib.hid (by rw [hw5]; exact New.al HN4.out _)
        have HR5 : Hid (RIn p w5 A4 n4 c4 s1) := Lib.hid (by rw [hw5]; exact HR4.out.new (New.al (New.refl _) _))
        have HB95 : Hid (Blk w5 b9 98 #[.slice A4 n4 c4, .int .i64 e4]) := Lib.hid (by rw [hw5, hb9]; exact Blk.new _ _ _)
        have HZ9 : Hid (wr.heap.size ≤ b9) := Lib.hid (by rw [hb9]; exact HN4.out.size)
        rw [← hw5, ← hb9]
        clear hw5 hb9
        have cb90 : w5.cell? ⟨b9, 0, none⟩ = some (.slice A4 n4 c4) := HB95.out.cell 0
        have cb91 : w5.cell? ⟨b9, 1, none⟩ = some (.int .i64 e4) := HB95.out.cell 1
        have fb90 : w5.frozen? ⟨b9, 0, none⟩ = false := HB95.out.frozen 0
        have fb91 : w5.frozen? ⟨b9, 1, none⟩ = false := HB95.out.frozen 1
        have hfl := field_any HR5.out 16 (by omega)
        unfold rV at hfl
        rw [← HE4.out] at hfl
        have HFL := Lib.hid hfl
        clear hfl
        go_wp2_with fail
        refine HFL.out.mono ?_
        rintro e w6 ⟨⟨A6, c6, A7, n7, c7, rfl, hk6, hkc6, hr6⟩, hN6⟩
        rw [← HKEY.out, ← HKN.out] at hk6
        rw [← HS2.out] at hr6
        rw [← HKEY.out, ← HKN.out, ← HS2.out]
        unfold rV
        obtain ⟨e7, he7⟩ : ∃ e7, e7 = s2.e := ⟨_, rfl⟩
        rw [← he7]
        have HE7 := Lib.hid he7
        have HR6 := Lib.hid hr6
        have HKR6 := Lib.hid hk6
        have HKB : Hid (Byt key) := Lib.hid (by rw [HKEY.out]; exact bytes_byt HR5.out.byt 16)
        have HN6 : Hid (New wr w6) := Lib.hid (HN5.out.tr hN6)
        have HB96 := Lib.hid (hN6.blk HB95.out)
        clear cb90 cb91 fb90 fb91
        clear hr6 hk6 hkc6 hN6 he7 HFL HB95 HR5
        have cb90 : w6.cell? ⟨b9, 0, none⟩ = some (.slice A4 n4 c4) := HB96.out.cell 0
        have cb91 : w6.cell? ⟨b9, 1, none⟩ = some (.int .i64 e4) := HB96.out.cell 1
        have fb90 : w6.frozen? ⟨b9, 0, none⟩ = false := HB96.out.frozen 0
        have fb91 : w6.frozen? ⟨b9, 1, none⟩ = false := HB96.out.frozen 1
        go_upto_region 9 with fail
        obtain ⟨w7, hw7⟩ : ∃ w7 : World, w7 = (w6.setCell ⟨b9, 0, none⟩ (.slice A7 n7 c7)).setCell ⟨b9, 1, none⟩ (.int .i64 e7) := ⟨_, rfl⟩
        have hFw7 : Fr (fun k => k = b9) w6 w7 := by rw [hw7]; exact ((Fr.refl (fun k => k = b9) w6).setCell (p := ⟨b9, 0, none⟩) (fun _ => rfl) _).setCell (p := ⟨b9, 1, none⟩) (fun _ => rfl) _
        have HB97 : Hid (Blk w7 b9 98 #[(.slice A7 n7 c7), (.int .i64 e7)]) := Lib.hid (by rw [hw7]; exact blk_set2 HB96.out _ _)
        have HFw7 := Lib.hid hFw7
        rw [← hw7]
        clear hw7 hFw7
        clear cb90 cb91 fb90 fb91
        have HN7 : Hid (New wr w7) := Lib.hid (HN6.out.fr HFw7.out (fun k hk => by have := HZ9.out; omega))
        have hpn : ∀ k, p k → k < wr.heap.size := fun k hk => Nat.lt_of_lt_of_le (HP.out k hk) HJ.out.new.size
        have HPN := Lib.hid hpn
        have HR7 : Hid (RIn p w7 A7 n7 c7 s2) := Lib.hid ⟨HR6.out.rd.fr HFw7.out (fun k hk e => by have := HPN.out k hk; have := HZ9.out; omega), HR6.out.byt, HR6.out.nc, HR6.out.cm⟩
        have HKR7 : Hid (Rd p w7 1 A6 kn (u8s key)) := Lib.hid (HKR6.out.fr HFw7.out (fun k hk e => by have := HPN.out k hk; have := HZ9.out; omega))
        clear hpn HR6 HKR6 HB96 HN6 HFw7
        go_upto_region 10 with fail
        obtain ⟨w8, hw8⟩ : ∃ w8 : World, w8 = w7.alloc (.cells #[.slice A6 kn c6, .slice none 0 0, .bool true] 49) := ⟨_, rfl⟩
        obtain ⟨b11, hb11⟩ : ∃ b11, b11 = w7.heap.size := ⟨_, rfl⟩
        have HN78 : Hid (New w7 w8) := Lib.hid (by rw [hw8]; exact New.al (New.refl _) _)
        have HB11 : Hid (Blk w8 b11 49 #[.slice A6 kn c6, .slice none 0 0, .bool true]) := Lib.hid (by rw [hw8, hb11]; exact Blk.new _ _ _)
        have HZ11 : Hid (wr.heap.size ≤ b11 ∧ b9 < b11) := Lib.hid (by rw [hb11]; exact ⟨HN7.out.size, HB97.out.lt⟩)
        rw [← hw8, ← hb11]
        clear hw8 hb11
        have HN8 : Hid (New wr w8) := Lib.hid (HN7.out.tr HN78.out)
        have HR8 := Lib.hid (HR7.out.new HN78.out)
        have HKR8 := Lib.hid (HN78.out.rd HKR7.out)
        have HB98 := Lib.hid (HN78.out.blk HB97.out)
        clear HR7 HKR7 HB97 HN7 HN78
        have cb90 : w8.cell? ⟨b9, 0, none⟩ = some (.slice A7 n7 c7) := HB98.out.cell 0
        have cb91 : w8.cell? ⟨b9, 1, none⟩ = some (.int .i64 e7) := HB98.out.cell 1
        have fb90 : w8.frozen? ⟨b9, 0, none⟩ = false := HB98.out.frozen 0
        have fb91 : w8.frozen? ⟨b9, 1, none⟩ = false := HB98.out.frozen 1
        have HB4W : Hid (Blk w8 b4 98 #[.slice Ar nr cr, .int .i64 0]) := Lib.hid (HN8.out.blk HBr.out)
        have cb40 : w8.cell? ⟨b4, 0, none⟩ = some (.slice Ar nr cr) := HB4W.out.cell 0
        have cb41 : w8.cell? ⟨b4, 1, none⟩ = some (.int .i64 0) := HB4W.out.cell 1
        have fb40 : w8.frozen? ⟨b4, 0, none⟩ = false := HB4W.out.frozen 0
        have fb41 : w8.frozen? ⟨b4, 1, none⟩ = false := HB4W.out.frozen 1
        have k0 : w8.cell? ⟨b11, 0, none⟩ = some (.slice A6 kn c6) := HB11.out.cell 0
        have k1 : w8.cell? ⟨b11, 1, none⟩ = some (.slice none 0 0) := HB11.out.cell 1
        have k2 : w8.cell? ⟨b11, 2, none⟩ = some (.bool true) := HB11.out.cell 2
        go_upto_region 15 with fail
        obtain ⟨wE, hwE⟩ : ∃ wE : World, wE = (w8.setCell ⟨b4, 0, none⟩ (.slice A7 n7 c7)).setCell ⟨b4, 1, none⟩ (.int .i64 e7) := ⟨_, rfl⟩
        have hFwE : Fr (fun k => k = b4) w8 wE := by rw [hwE]; exact ((Fr.refl (fun k => k = b4) w8).setCell (p := ⟨b4, 0, none⟩) (fun _ => rfl) _).setCell (p := ⟨b4, 1, none⟩) (fun _ => rfl) _
        have HB4E : Hid (Blk wE b4 98 #[(.slice A7 n7 c7), (.int .i64 e7)]) := Lib.hid (by rw [hwE]; exact blk_set2 HB4W.out _ _)
        have HFwE := Lib.hid hFwE
        rw [← hwE]
        clear hwE hFwE
        clear cb90 cb91 fb90 fb91
        clear cb40 cb41 fb40 fb41
        clear k0 k1 k2
        have hb4l : b4 < wr.heap.size := HBr.out.lt
        have HB11E : Hid (Blk wE b11 49 #[.slice A6 kn c6, .slice none 0 0, .bool true]) := Lib.hid (HB11.out.fr HFwE.out (by have := HZ11.out; omega))
        have hpz : ∀ k, p k → ¬ k = b4 := HPB.out
        have HRE : Hid (RIn p wE A7 n7 c7 s2) := Lib.hid ⟨HR8.out.rd.fr HFwE.out hpz, HR8.out.byt, HR8.out.nc, HR8.out.cm⟩
        have HKE : Hid (Rd p wE 1 A6 kn (u8s key)) := Lib.hid (HKR8.out.fr HFwE.out hpz)
        have HCE : Hid ((⟨⟨A6, kn, c6, key⟩, ⟨none, 0, 0, []⟩, true⟩ : Ch).In p wE) := Lib.hid ⟨⟨HKE.out, HKB.out⟩, ⟨rd_none _, fun x hx => nomatch hx⟩⟩
        have HNE : Hid (New w wE) := Lib.hid ((HJ.out.new.tr HN8.out).fr HFwE.out (fun k hk => by have := HJ.out.bz; omega))
        have hoe : ∀ k, (Value.slice A' m c').ownBlock = some k → ¬ k = b4 := fun k hk e => by
          subst e
          exact own_ne HJ.out.own HBr.out (by decide) hk
        have HOE : Hid (wE.ownsRow w.heap.size 49 3 (.slice A' m c') m (L.flatMap Ch.cells)) := Lib.hid (own_fr (HN8.out.own HJ.out.own) HFwE.out hoe)
        have HLE : Hid (∀ c ∈ L, c.In p wE) := Lib.hid (fun c hc => by
          have := (HJ.out.el c hc).new HN8.out
          exact ⟨⟨this.k.rd.fr HFwE.out hpz, this.k.byt⟩, ⟨this.v.rd.fr HFwE.out hpz, this.v.byt⟩⟩)
        clear hpz hoe
        have k0 : wE.cell? ⟨b11, 0, none⟩ = some (.slice A6 kn c6) := HB11E.out.cell 0
        have k1 : wE.cell? ⟨b11, 1, none⟩ = some (.slice none 0 0) := HB11E.out.cell 1
        have k2 : wE.cell? ⟨b11, 2, none⟩ = some (.bool true) := HB11E.out.cell 2
        go_wp2_with (first
          | ((with_reducible refine atOpS ⟨some 58, .buildSlice _ _ _, _, _, _, _⟩ ?_); refine wpList_bs1 elD (by decide) rfl (.tmp 57) rfl #[.slice A6 kn c6, .slice none 0 0, .bool true] rfl rfl ?_)
          | (at_builtin; refine atOpS ⟨some 59, _, _, _, _, _⟩ ?_; refine stopHere ?_))
        refine ⟨?_⟩
        refine wpList_app (o := ⟨some 59, _, _, _, _, _⟩) elD _ rfl (.tmp 56) (.tmp 58) rfl w.heap.size (.slice A' m c') m (L.flatMap Ch.cells) rfl (New.own (New.al (New.refl _) _) HOE.out) _ 1 1 [.slice A6 kn c6, .slice none 0 0, .bool true] rfl (Rd.ofBlk (p := fun _ => True) (Blk.new _ 49 #[.slice A6 kn c6, .slice none 0 0, .bool true]) 3 1 rfl trivial) (cells_one ⟨⟨A6, kn, c6, key⟩, ⟨none, 0, 0, []⟩, true⟩) (by unfold maxLen; omega) (by omega) (by have := HNE.out.size; simp; omega) ?_
        intro AF dF wF hOF hFF hAF
        have hFt := ((New.al (New.refl wE) (.cells #[.slice A6 kn c6, .slice none 0 0, .bool true] 49)).toFr (fun k => (Value.slice A' m c').ownBlock = some k)).trans hFF
        have hpo : ∀ k, p k → ¬ (Value.slice A' m c').ownBlock = some k := fun k hk e => by have := (own_lt HOE.out k e).1; have := HP.out k hk; omega
        have HIF : Hid (RrI p w b4 s2 (m + 1) AF dF (L ++ [⟨⟨A6, kn, c6, key⟩, ⟨none, 0, 0, []⟩, true⟩]) wF) := Lib.hid ⟨HNE.out.fr hFt (fun k hk => (own_lt HOE.out k hk).1), HJ.out.bz, ⟨A7, n7, c7, by rw [← HE7.out]; exact HB4E.out.fr hFt (fun hk => own_ne HOE.out HB4E.out (by decide) hk), ⟨HRE.out.rd.fr hFt hpo, HRE.out.byt, HRE.out.nc, HRE.out.cm⟩⟩, by rw [List.flatMap_append]; simpa [Ch.cells] using hOF, fun c hc => by
            rcases List.mem_append.1 hc with hc | hc
            · have := HLE.out c hc
              exact ⟨⟨this.k.rd.fr hFt hpo, this.k.byt⟩, ⟨this.v.rd.fr hFt hpo, this.v.byt⟩⟩
            · rw [List.mem_singleton.1 hc]
              have := HCE.out
              exact ⟨⟨this.k.rd.fr hFt hpo, this.k.byt⟩, ⟨this.v.rd.fr hFt hpo, this.v.byt⟩⟩, fun c hc => by
            rcases List.mem_append.1 hc with hc | hc
            · exact HJ.out.sz c hc
            · rw [List.mem_singleton.1 hc]
              exact ⟨HK16.out, Nat.zero_le _⟩⟩
        have HPF : Hid (r = rprs (N - (j + 1)) s2 ((L ++ [(⟨⟨A6, kn, c6, key⟩, ⟨none, 0, 0, []⟩, true⟩ : Ch)]).map pcOf)) := Lib.hid (by
          have h1 := HPJ.out
          rw [HNj.out] at h1
          unfold rprs at h1
          rw [if_pos HEZ.out, HSTP.out] at h1
          rw [h1, List.map_append]
          rfl)
        clear hOF hFF hAF hFt hpo k0 k1 k2 hb4l
        go_wp2_with fail
        go_roundw
        case rel => exact ⟨j + 1, m + 1, _, AF, dF, _, by omega, by omega, by go_num, rfl, HIF, HPF⟩
        case measure => simp [intOf]; omega
      · as_aux_lemma =>
        obtain ⟨val, hval⟩ : ∃ val, val = (s2.bytes 16384).1 := ⟨_, rfl⟩
        obtain ⟨s3, hs3⟩ : ∃ s3, s3 = (s2.bytes 16384).2 := ⟨_, rfl⟩
        obtain ⟨vn, hvn⟩ : ∃ vn, vn = val.length := ⟨_, rfl⟩
        have HSTP : Hid (prsStep s = (⟨key, val, false⟩, s3)) := Lib.hid (by unfold prsStep; rw [hb, if_pos rfl, ← HS1.out, ← HS2.out, ← HKEY.out, ← hval, ← hs3])
        have HVAL := Lib.hid hval
        have HS3 := Lib.hid hs3
        have HVN := Lib.hid hvn
        have HV16 : Hid (vn ≤ 16384) := Lib.hid (by rw [hvn, hval]; exact bytes_le s2 16384)
        clear hval hs3 hvn
        have HFB := Lib.hid hb
        go_wp2_with fail
        refine HBL.out.mono ?_
        rintro e w4 ⟨⟨A4, n4, c4, rfl, hr4⟩, hN4⟩
        rw [HFB.out]
        rw [← HS1.out] at hr4 ⊢
        unfold rV
        obtain ⟨e4, he4⟩ : ∃ e4, e4 = s1.e := ⟨_, rfl⟩
        rw [← he4]
        have HE4 := Lib.hid he4
        have HR4 := Lib.hid hr4
        have HN4 := Lib.hid hN4
        clear hr4 hN4 he4 HBL c0 c1 hb
        go_upto_region 8 with fail
        obtain ⟨w5, hw5⟩ : ∃ w5 : World, w5 = w4.alloc (.cells #[.slice A4 n4 c4, .int .i64 e4] 98) := ⟨_, rfl⟩
        obtain ⟨b9, hb9⟩ : ∃ b9, b9 = w4.heap.size := ⟨_, rfl⟩
        have HN5 : Hid (New wr w5) := Lib.hid (by rw [hw5]; exact New.al HN4.out _)
        have HR5 : Hid (RIn p w5 A4 n4 c4 s1) := Lib.hid (by rw [hw5]; exact HR4.out.new (New.al (New.refl _) _))
        have HB95 : Hid (Blk w5 b9 98 #[.slice A4 n4 c4, .int .i64 e4]) := Lib.hid (by rw [hw5, hb9]; exact Blk.new _ _ _)
        have HZ9 : Hid (wr.heap.size ≤ b9) := Lib.hid (by rw [hb9]; exact HN4.out.size)
        rw [← hw5, ← hb9]
        clear hw5 hb9
        have cb90 : w5.cell? ⟨b9, 0, none⟩ = some (.slice A4 n4 c4) := HB95.out.cell 0
        have cb91 : w5.cell? ⟨b9, 1, none⟩ = some (.int .i64 e4) := HB95.out.cell 1
        have fb90 : w5.frozen? ⟨b9, 0, none⟩ = false := HB95.out.frozen 0
        have fb91 : w5.frozen? ⟨b9, 1, none⟩ = false := HB95.out.frozen 1
        have hfl := field_any HR5.out 16 (by omega)
        unfold rV at hfl
        rw [← HE4.out] at hfl
        have HFL := Lib.hid hfl
        clear hfl
        go_wp2_with fail
        refine HFL.out.mono ?_
        rintro e w6 ⟨⟨A6, c6, A7, n7, c7, rfl, hk6, hkc6, hr6⟩, hN6⟩
        rw [← HKEY.out, ← HKN.out] at hk6
        rw [← HS2.out] at hr6
        rw [← HKEY.out, ← HKN.out, ← HS2.out]
        unfold rV
        obtain ⟨e7, he7⟩ : ∃ e7, e7 = s2.e := ⟨_, rfl⟩
        rw [← he7]
        have HE7 := Lib.hid he7
        have HR6 := Lib.hid hr6
        have HKR6 := Lib.hid hk6
        have HKB : Hid (Byt key) := Lib.hid (by rw [HKEY.out]; exact bytes_byt HR5.out.byt 16)
        have HN6 : Hid (New wr w6) := Lib.hid (HN5.out.tr hN6)
        have HB96 := Lib.hid (hN6.blk HB95.out)
        clear cb90 cb91 fb90 fb91
        clear hr6 hk6 hkc6 hN6 he7 HFL HB95 HR5
        have cb90 : w6.cell? ⟨b9, 0, none⟩ = some (.slice A4 n4 c4) := HB96.out.cell 0
        have cb91 : w6.cell? ⟨b9, 1, none⟩ = some (.int .i64 e4) := HB96.out.cell 1
        have fb90 : w6.frozen? ⟨b9, 0, none⟩ = false := HB96.out.frozen 0
        have fb91 : w6.frozen? ⟨b9, 1, none⟩ = false := HB96.out.frozen 1
        go_upto_region 9 with fail
        obtain ⟨w7, hw7⟩ : ∃ w7 : World, w7 = (w6.setCell ⟨b9, 0, none⟩ (.slice A7 n7 c7)).setCell ⟨b9, 1, none⟩ (.int .i64 e7) := ⟨_, rfl⟩
        have hFw7 : Fr (fun k => k = b9) w6 w7 := by rw [hw7]; exact ((Fr.refl (fun k => k = b9) w6).setCell (p := ⟨b9, 0, none⟩) (fun _ => rfl) _).setCell (p := ⟨b9, 1, none⟩) (fun _ => rfl) _
        have HB97 : Hid (Blk w7 b9 98 #[(.slice A7 n7 c7), (.int .i64 e7)]) := Lib.hid (by rw [hw7]; exact blk_set2 HB96.out _ _)
        have HFw7 := Lib.hid hFw7
        rw [← hw7]
        clear hw7 hFw7
        clear cb90 cb91 fb90 fb91
        have HN7 : Hid (New wr w7) := Lib.hid (HN6.out.fr HFw7.out (fun k hk => by have := HZ9.out; omega))
        have hpn : ∀ k, p k → k < wr.heap.size := fun k hk => Nat.lt_of_lt_of_le (HP.out k hk) HJ.out.new.size
        have HPN := Lib.hid hpn
        have HR7 : Hid (RIn p w7 A7 n7 c7 s2) := Lib.hid ⟨HR6.out.rd.fr HFw7.out (fun k hk e => by have := HPN.out k hk; have := HZ9.out; omega), HR6.out.byt, HR6.out.nc, HR6.out.cm⟩
        have HKR7 : Hid (Rd p w7 1 A6 kn (u8s key)) := Lib.hid (HKR6.out.fr HFw7.out (fun k hk e => by have := HPN.out k hk; have := HZ9.out; omega))
        clear hpn HR6 HKR6 HB96 HN6 HFw7
        go_upto_region 10 with fail
        obtain ⟨w8, hw8⟩ : ∃ w8 : World, w8 = w7.alloc (.cells #[.slice A6 kn c6, .slice none 0 0, .bool false] 49) := ⟨_, rfl⟩
        obtain ⟨b11, hb11⟩ : ∃ b11, b11 = w7.heap.size := ⟨_, rfl⟩
        have HN78 : Hid (New w7 w8) := Lib.hid (by rw [hw8]; exact New.al (New.refl _) _)
        have HB11 : Hid (Blk w8 b11 49 #[.slice A6 kn c6, .slice none 0 0, .bool false]) := Lib.hid (by rw [hw8, hb11]; exact Blk.new _ _ _)
        have HZ11 : Hid (wr.heap.size ≤ b11 ∧ b9 < b11) := Lib.hid (by rw [hb11]; exact ⟨HN7.out.size, HB97.out.lt⟩)
        rw [← hw8, ← hb11]
        clear hw8 hb11
        have HN8 : Hid (New wr w8) := Lib.hid (HN7.out.tr HN78.out)
        have HR8 := Lib.hid (HR7.out.new HN78.out)
        have HKR8 := Lib.hid (HN78.out.rd HKR7.out)
        have HB98 := Lib.hid (HN78.out.blk HB97.out)
        clear HR7 HKR7 HB97 HN7 HN78
        have cb90 : w8.cell? ⟨b9, 0, none⟩ = some (.slice A7 n7 c7) := HB98.out.cell 0
        have cb91 : w8.cell? ⟨b9, 1, none⟩ = some (.int .i64 e7) := HB98.out.cell 1
        have fb90 : w8.frozen? ⟨b9, 0, none⟩ = false := HB98.out.frozen 0
        have fb91 : w8.frozen? ⟨b9, 1, none⟩ = false := HB98.out.frozen 1
        have hfl := field_any HR8.out 16384 (by omega)
        unfold rV at hfl
        rw [← HE7.out] at hfl
        have HFL := Lib.hid hfl
        clear hfl
        go_wp2_with fail
        refine HFL.out.mono ?_
        rintro e w9 ⟨⟨Av, cv, A10, n10, c10, rfl, hv9, hvc9, hr9⟩, hN9⟩
        rw [← HVAL.out, ← HVN.out] at hv9
        rw [← HS3.out] at hr9
        rw [← HVAL.out, ← HVN.out, ← HS3.out]
        unfold rV
        obtain ⟨e10, he10⟩ : ∃ e10, e10 = s3.e := ⟨_, rfl⟩
        rw [← he10]
        have HE10 := Lib.hid he10
        have HR9 := Lib.hid hr9
        have HVR9 := Lib.hid hv9
        have HVB : Hid (Byt val) := Lib.hid (by rw [HVAL.out]; exact bytes_byt HR8.out.byt 16384)
        have HN89 := Lib.hid hN9
        clear cb90 cb91 fb90 fb91
        clear hr9 hv9 hvc9 hN9 he10 HFL
        go_upto_region 12 with fail
        obtain ⟨wA, hwA⟩ : ∃ wA : World, wA = w9.alloc (.cells #[.slice A10 n10 c10, .int .i64 e10] 98) := ⟨_, rfl⟩
        obtain ⟨b13, hb13⟩ : ∃ b13, b13 = w9.heap.size := ⟨_, rfl⟩
        have HN9A : Hid (New w9 wA) := Lib.hid (by rw [hwA]; exact New.al (New.refl _) _)
        have HB13 : Hid (Blk wA b13 98 #[.slice A10 n10 c10, .int .i64 e10]) := Lib.hid (by rw [hwA, hb13]; exact Blk.new _ _ _)
        rw [← hwA, ← hb13]
        clear hwA hb13
        have HN8A : Hid (New w8 wA) := Lib.hid (HN89.out.tr HN9A.out)
        have HNA : Hid (New wr wA) := Lib.hid (HN8.out.tr HN8A.out)
        have HB9A := Lib.hid (HN8A.out.blk HB98.out)
        have HB11A := Lib.hid (HN8A.out.blk HB11.out)
        have HRA := Lib.hid (HR9.out.new HN9A.out)
        have HVRA := Lib.hid (HN9A.out.rd HVR9.out)
        have HKRA := Lib.hid (HN8A.out.rd HKR8.out)
        clear HB98 HB11 HR9 HVR9 HKR8 HN9A HN89 HN8A HR8
        have cb90 : wA.cell? ⟨b9, 0, none⟩ = some (.slice A7 n7 c7) := HB9A.out.cell 0
        have cb91 : wA.cell? ⟨b9, 1, none⟩ = some (.int .i64 e7) := HB9A.out.cell 1
        have fb90 : wA.frozen? ⟨b9, 0, none⟩ = false := HB9A.out.frozen 0
        have fb91 : wA.frozen? ⟨b9, 1, none⟩ = false := HB9A.out.frozen 1
        have c130 : wA.cell? ⟨b13, 0, none⟩ = some (.slice A10 n10 c10) := HB13.out.cell 0
        have c131 : wA.cell? ⟨b13, 1, none⟩ = some (.int .i64 e10) := HB13.out.cell 1
        go_upto_region 13 with fail
        obtain ⟨wB, hwB⟩ : ∃ wB : World, wB = (wA.setCell ⟨b9, 0, none⟩ (.slice A10 n10 c10)).setCell ⟨b9, 1, none⟩ (.int .i64 e10) := ⟨_, rfl⟩
        have hFwB : Fr (fun k => k = b9) wA wB := by rw [hwB]; exact ((Fr.refl (fun k => k = b9) wA).setCell (p := ⟨b9, 0, none⟩) (fun _ => rfl) _).setCell (p := ⟨b9, 1, none⟩) (fun _ => rfl) _
        have HB9B : Hid (Blk wB b9 98 #[(.slice A10 n10 c10), (.int .i64 e10)]) := Lib.hid (by rw [hwB]; exact blk_set2 HB9A.out _ _)
        have HFwB := Lib.hid hFwB
        rw [← hwB]
        clear hwB hFwB
        clear cb90 cb91 fb90 fb91
        clear c130 c131
        have hpn : ∀ k, p k → k < wr.heap.size := HPN.out
        have HNB : Hid (New wr wB) := Lib.hid (HNA.out.fr HFwB.out (fun k hk => by have := HZ9.out; omega))
        have HB11B : Hid (Blk wB b11 49 #[.slice A6 kn c6, .slice none 0 0, .bool false]) := Lib.hid (HB11A.out.fr HFwB.out (by have := HZ11.out; omega))
        have HRB : Hid (RIn p wB A10 n10 c10 s3) := Lib.hid ⟨HRA.out.rd.fr HFwB.out (fun k hk e => by have := HPN.out k hk; have := HZ9.out; omega), HRA.out.byt, HRA.out.nc, HRA.out.cm⟩
        have HVRB : Hid (Rd p wB 1 Av vn (u8s val)) := Lib.hid (HVRA.out.fr HFwB.out (fun k hk e => by have := HPN.out k hk; have := HZ9.out; omega))
        have HKRB : Hid (Rd p wB 1 A6 kn (u8s key)) := Lib.hid (HKRA.out.fr HFwB.out (fun k hk e => by have := HPN.out k hk; have := HZ9.out; omega))
        clear HRA HVRA HKRA HB11A HB9A HNA hpn HFwB
        have k1 : wB.cell? ⟨b11, 1, none⟩ = some (.slice none 0 0) := HB11B.out.cell 1
        have kf1 : wB.frozen? ⟨b11, 1, none⟩ = false := HB11B.out.frozen 1
        go_upto_region 14 with fail
        obtain ⟨wC, hwC⟩ : ∃ wC : World, wC = wB.setCell ⟨b11, 1, none⟩ (.slice Av vn cv) := ⟨_, rfl⟩
        have hFC : Fr (fun k => k = b11) wB wC := by rw [hwC]; exact (Fr.refl (fun k => k = b11) wB).setCell (p := ⟨b11, 1, none⟩) (fun _ => rfl) _
        have HB11C : Hid (Blk wC b11 49 #[.slice A6 kn c6, .slice Av vn cv, .bool false]) := Lib.hid (by
          have := HB11B.out.set 1 (.slice Av vn cv)
          rw [hwC]
          simpa using this)
        have HFC := Lib.hid hFC
        rw [← hwC]
        clear hwC hFC k1 kf1
        have HNC : Hid (New wr wC) := Lib.hid (HNB.out.fr HFC.out (fun k hk => by have := HZ11.out; omega))
        have HB9C := Lib.hid (HB9B.out.fr HFC.out (by have := HZ11.out; omega))
        have HRC : Hid (RIn p wC A10 n10 c10 s3) := Lib.hid ⟨HRB.out.rd.fr HFC.out (fun k hk e => by have := HPN.out k hk; have := HZ11.out; omega), HRB.out.byt, HRB.out.nc, HRB.out.cm⟩
        have HVRC : Hid (Rd p wC 1 Av vn (u8s val)) := Lib.hid (HVRB.out.fr HFC.out (fun k hk e => by have := HPN.out k hk; have := HZ11.out; omega))
        have HKRC : Hid (Rd p wC 1 A6 kn (u8s key)) := Lib.hid (HKRB.out.fr HFC.out (fun k hk e => by have := HPN.out k hk; have := HZ11.out; omega))
        clear HRB HVRB HKRB HB11B HB9B HNB HFC HN8
        have cb90 : wC.cell? ⟨b9, 0, none⟩ = some (.slice A10 n10 c10) := HB9C.out.cell 0
        have cb91 : wC.cell? ⟨b9, 1, none⟩ = some (.int .i64 e10) := HB9C.out.cell 1
        have fb90 : wC.frozen? ⟨b9, 0, none⟩ = false := HB9C.out.frozen 0
        have fb91 : wC.frozen? ⟨b9, 1, none⟩ = false := HB9C.out.frozen 1
        have HB4W : Hid (Blk wC b4 98 #[.slice Ar nr cr, .int .i64 0]) := Lib.hid (HNC.out.blk HBr.out)
        have cb40 : wC.cell? ⟨b4, 0, none⟩ = some (.slice Ar nr cr) := HB4W.out.cell 0
        have cb41 : wC.cell? ⟨b4, 1, none⟩ = some (.int .i64 0) := HB4W.out.cell 1
        have fb40 : wC.frozen? ⟨b4, 0, none⟩ = false := HB4W.out.frozen 0
        have fb41 : wC.frozen? ⟨b4, 1, none⟩ = false := HB4W.out.frozen 1
        have k0 : wC.cell? ⟨b11, 0, none⟩ = some (.slice A6 kn c6) := HB11C.out.cell 0
        have k1 : wC.cell? ⟨b11, 1, none⟩ = some (.slice Av vn cv) := HB11C.out.cell 1
        have k2 : wC.cell? ⟨b11, 2, none⟩ = some (.bool false) := HB11C.out.cell 2
        go_upto_region 15 with fail
        obtain ⟨wE, hwE⟩ : ∃ wE : World, wE = (wC.setCell ⟨b4, 0, none⟩ (.slice A10 n10 c10)).setCell ⟨b4, 1, none⟩ (.int .i64 e10) := ⟨_, rfl⟩
        have hFwE : Fr (fun k => k = b4) wC wE := by rw [hwE]; exact ((Fr.refl (fun k => k = b4) wC).setCell (p := ⟨b4, 0, none⟩) (fun _ => rfl) _).setCell (p := ⟨b4, 1, none⟩) (fun _ => rfl) _
        have HB4E : Hid (Blk wE b4 98 #[(.slice A10 n10 c10), (.int .i64 e10)]) := Lib.hid (by rw [hwE]; exact blk_set2 HB4W.out _ _)
        have HFwE := Lib.hid hFwE
        rw [← hwE]
        clear hwE hFwE
        clear cb90 cb91 fb90 fb91
        clear cb40 cb41 fb40 fb41
        clear k0 k1 k2
        have hb4l : b4 < wr.heap.size := HBr.out.lt
        have HB11E : Hid (Blk wE b11 49 #[.slice A6 kn c6, .slice Av vn cv, .bool false]) := Lib.hid (HB11C.out.fr HFwE.out (by have := HZ11.out; omega))
        have hpz : ∀ k, p k → ¬ k = b4 := HPB.out
        have HRE : Hid (RIn p wE A10 n10 c10 s3) := Lib.hid ⟨HRC.out.rd.fr HFwE.out hpz, HRC.out.byt, HRC.out.nc, HRC.out.cm⟩
        have HKE : Hid (Rd p wE 1 A6 kn (u8s key)) := Lib.hid (HKRC.out.fr HFwE.out hpz)
        have HCE : Hid ((⟨⟨A6, kn, c6, key⟩, ⟨Av, vn, cv, val⟩, false⟩ : Ch).In p wE) := Lib.hid ⟨⟨HKE.out, HKB.out⟩, ⟨HVRC.out.fr HFwE.out hpz, HVB.out⟩⟩
        have HNE : Hid (New w wE) := Lib.hid ((HJ.out.new.tr HNC.out).fr HFwE.out (fun k hk => by have := HJ.out.bz; omega))
        have hoe : ∀ k, (Value.slice A' m c').ownBlock = some k → ¬ k = b4 := fun k hk e => by
          subst e
          exact own_ne HJ.out.own HBr.out (by decide) hk
        have HOE : Hid (wE.ownsRow w.heap.size 49 3 (.slice A' m c') m (L.flatMap Ch.cells)) := Lib.hid (own_fr (HNC.out.own HJ.out.own) HFwE.out hoe)
        have HLE : Hid (∀ c ∈ L, c.In p wE) := Lib.hid (fun c hc => by
          have := (HJ.out.el c hc).new HNC.out
          exact ⟨⟨this.k.rd.fr HFwE.out hpz, this.k.byt⟩, ⟨this.v.rd.fr HFwE.out hpz, this.v.byt⟩⟩)
        clear hpz hoe
        have k0 : wE.cell? ⟨b11, 0, none⟩ = some (.slice A6 kn c6) := HB11E.out.cell 0
        have k1 : wE.cell? ⟨b11, 1, none⟩ = some (.slice Av vn cv) := HB11E.out.cell 1
        have k2 : wE.cell? ⟨b11, 2, none⟩ = some (.bool false) := HB11E.out.cell 2
        go_wp2_with (first
          | ((with_reducible refine atOpS ⟨some 58, .buildSlice _ _ _, _, _, _, _⟩ ?_); refine wpList_bs1 elD (by decide) rfl (.tmp 57) rfl #[.slice A6 kn c6, .slice Av vn cv, .bool false] rfl rfl ?_)
          | (at_builtin; refine atOpS ⟨some 59, _, _, _, _, _⟩ ?_; refine stopHere ?_))
        refine ⟨?_⟩
        refine wpList_app (o := ⟨some 59, _, _, _, _, _⟩) elD _ rfl (.tmp 56) (.tmp 58) rfl w.heap.size (.slice A' m c') m (L.flatMap Ch.cells) rfl (New.own (New.al (New.refl _) _) HOE.out) _ 1 1 [.slice A6 kn c6, .slice Av vn cv, .bool false] rfl (Rd.ofBlk (p := fun _ => True) (Blk.new _ 49 #[.slice A6 kn c6, .slice Av vn cv, .bool false]) 3 1 rfl trivial) (cells_one ⟨⟨A6, kn, c6, key⟩, ⟨Av, vn, cv, val⟩, false⟩) (by unfold maxLen; omega) (by omega) (by have := HNE.out.size; simp; omega) ?_
        intro AF dF wF hOF hFF hAF
        have hFt := ((New.al (New.refl wE) (.cells #[.slice A6 kn c6, .slice Av vn cv, .bool false] 49)).toFr (fun k => (Value.slice A' m c').ownBlock = some k)).trans hFF
        have hpo : ∀ k, p k → ¬ (Value.slice A' m c').ownBlock = some k := fun k hk e => by have := (own_lt HOE.out k e).1; have := HP.out k hk; omega
        have HIF : Hid (RrI p w b4 s3 (m + 1) AF dF (L ++ [⟨⟨A6, kn, c6, key⟩, ⟨Av, vn, cv, val⟩, false⟩]) wF) := Lib.hid ⟨HNE.out.fr hFt (fun k hk => (own_lt HOE.out k hk).1), HJ.out.bz, ⟨A10, n10, c10, by rw [← HE10.out]; exact HB4E.out.fr hFt (fun hk => own_ne HOE.out HB4E.out (by decide) hk), ⟨HRE.out.rd.fr hFt hpo, HRE.out.byt, HRE.out.nc, HRE.out.cm⟩⟩, by rw [List.flatMap_append]; simpa [Ch.cells] using hOF, fun c hc => by
            rcases List.mem_append.1 hc with hc | hc
            · have := HLE.out c hc
              exact ⟨⟨this.k.rd.fr hFt hpo, this.k.byt⟩, ⟨this.v.rd.fr hFt hpo, this.v.byt⟩⟩
            · rw [List.mem_singleton.1 hc]
              have := HCE.out
              exact ⟨⟨this.k.rd.fr hFt hpo, this.k.byt⟩, ⟨this.v.rd.fr hFt hpo, this.v.byt⟩⟩, fun c hc => by
            rcases List.mem_append.1 hc with hc | hc
            · exact HJ.out.sz c hc
            · rw [List.mem_singleton.1 hc]
              exact ⟨HK16.out, HV16.out⟩⟩
        have HPF : Hid (r = rprs (N - (j + 1)) s3 ((L ++ [(⟨⟨A6, kn, c6, key⟩, ⟨Av, vn, cv, val⟩, false⟩ : Ch)]).map pcOf)) := Lib.hid (by
          have h1 := HPJ.out
          rw [HNj.out] at h1
          unfold rprs at h1
          rw [if_pos HEZ.out, HSTP.out] at h1
          rw [h1, List.map_append]
          rfl)
        clear hOF hFF hAF hFt hpo k0 k1 k2 hb4l
        go_wp2_with fail
        go_roundw
        case rel => exact ⟨j + 1, m + 1, _, AF, dF, _, by omega, by omega, by go_num, rfl, HIF, HPF⟩
        case measure => simp [intOf]; omega
    · have hfin : (L.map pcOf, s) = r := by
        rw [HPJ.out]
        by_cases hjN : j = N
        · subst hjN
          rw [Nat.sub_self]
          rfl
        · exact (rprs_err (fun h => hgo ⟨by omega, h⟩) _ _).symm
      have hr1 : r.1 = L.map pcOf := by rw [← hfin]
      have hr2 : r.2 = s := by rw [← hfin]
      have hq := HQ.out
      have hLO : LenOk L := fun c hc => ⟨(HJ.out.el c hc).k.len, (HJ.out.el c hc).v.len⟩
      rw [hr1, hr2, pcsOk_len hLO] at hq
      have HQ2 := Lib.hid hq
      have HE := Lib.hid (fun W (hN : New wr W) => end_any (HRr.out.new hN))
      unfold rV at HE
      have hLm : L.length = m := by have := HJ.out.own.1; rw [cells_len] at this; omega
      have HLM := Lib.hid hLm
      have HC := Lib.hid (fun W (hN : New wr W) => rright_any A' m c' L W (Rd.own (hN.own HJ.out.own) rfl) hLm (by omega) (fun c hc => by have := HJ.out.sz c hc; unfold maxLen; omega))
      have HRT : Hid (RTb wr A' m L) := Lib.hid ⟨rd_szs (Rd.own HJ.out.own rfl), hLm, fun c hc => Ch.In.szs (HJ.out.el c hc)⟩
      obtain ⟨es, hes⟩ : ∃ es, es = s.e := ⟨_, rfl⟩
      obtain ⟨fs, hfs⟩ : ∃ fs, fs = s.fin := ⟨_, rfl⟩
      rw [← hes] at c1 hgo HE HBr
      rw [← hfs] at HE HQ2
      clear hfin hr1 hr2 hq hLm HPJ HRR HQ hLO hes hfs
      by_cases hlt : j < N
      · have he : ¬ es = 0 := fun h => hgo ⟨hlt, h⟩
        have hz : ((es : Int) == 0) = false := by simp; omega
        have hdz : decide ((es : Int) = 0) = false := decide_eq_false (by omega)
        have hdl : decide ((j : Int) < (N : Int)) = true := decide_eq_true (by omega)
        have hdlN : decide (j < N) = true := decide_eq_true hlt
        clear hgo
        go_wp2_with fail
        refine (HE.out wr (New.refl _)).mono ?_
        rintro e w4 ⟨rfl, hN4⟩
        have HN4 := Lib.hid hN4
        clear hN4 HE c0 c1
        by_cases hf : fs = 0
        · subst hf
          go_wp2_with fail
          refine (HC.out w4 HN4.out).mono ?_
          rintro e w5 ⟨rfl, rfl⟩
          by_cases hok : chsOk L = true
          · rw [hok]
            have HQ3 : Hid (q = some (L.map pcOf)) := Lib.hid (by rw [HQ2.out, if_pos ⟨by first | rfl | trivial, hok⟩])
            clear HQ2 hok
            go_wp2_with fail
            go_ret2
            exact ⟨.inr ⟨A', m, c', L, HQ3.out, rfl, HRT.out.new HN4.out⟩, HJ.out.new.tr HN4.out⟩
          · have hok : chsOk L = false := by simpa using hok
            rw [hok]
            have HQ3 : Hid (q = none) := Lib.hid (by rw [HQ2.out, if_neg (fun h => by rw [hok] at h; cases h.2)])
            clear HQ2 hok
            go_wp2_with fail
            go_ret2
            exact ⟨.inl ⟨HQ3.out, rfl⟩, HJ.out.new.tr HN4.out⟩
        · have hfz : ((fs : Int) == 0) = false := by simp; omega
          have hfz2 : ((fs : Int) != 0) = true := by simp; omega
          have hfd : decide ((fs : Int) = 0) = false := decide_eq_false (by omega)
          have HQ3 : Hid (q = none) := Lib.hid (by rw [HQ2.out, if_neg (fun h => hf h.1)])
          clear HQ2
          go_wp2_with fail
          go_ret2
          exact ⟨.inl ⟨HQ3.out, rfl⟩, HJ.out.new.tr HN4.out⟩
      · have hdl : decide ((j : Int) < (N : Int)) = false := decide_eq_false (by omega)
        have hdlN : decide (j < N) = false := decide_eq_false hlt
        clear hgo
        go_wp2_with fail
        refine (HE.out wr (New.refl _)).mono ?_
        rintro e w4 ⟨rfl, hN4⟩
        have HN4 := Lib.hid hN4
        clear hN4 HE c0 c1
        by_cases hf : fs = 0
        · subst hf
          go_wp2_with fail
          refine (HC.out w4 HN4.out).mono ?_
          rintro e w5 ⟨rfl, rfl⟩
          by_cases hok : chsOk L = true
          · rw [hok]
            have HQ3 : Hid (q = some (L.map pcOf)) := Lib.hid (by rw [HQ2.out, if_pos ⟨by first | rfl | trivial, hok⟩])
            clear HQ2 hok
            go_wp2_with fail
            go_ret2
            exact ⟨.inr ⟨A', m, c', L, HQ3.out, rfl, HRT.out.new HN4.out⟩, HJ.out.new.tr HN4.out⟩
          · have hok : chsOk L = false := by simpa using hok
            rw [hok]
            have HQ3 : Hid (q = none) := Lib.hid (by rw [HQ2.out, if_neg (fun h => by rw [hok] at h; cases h.2)])
            clear HQ2 hok
            go_wp2_with fail
            go_ret2
            exact ⟨.inl ⟨HQ3.out, rfl⟩, HJ.out.new.tr HN4.out⟩
        · have hfz : ((fs : Int) == 0) = false := by simp; omega
          have hfz2 : ((fs : Int) != 0) = true := by simp; omega
          have hfd : decide ((fs : Int) = 0) = false := decide_eq_false (by omega)
          have HQ3 : Hid (q = none) := Lib.hid (by rw [HQ2.out, if_neg (fun h => hf h.1)])
          clear HQ2
          go_wp2_with fail
          go_ret2
          exact ⟨.inl ⟨HQ3.out, rfl⟩, HJ.out.new.tr HN4.out⟩
end Go.Proofs.Ytfhinmjpokollaa
/- A region that draws its order: operations that only read and callees that may make memory, walked once in text order; behind them a tail whose order is fixed (a store, an append, a call that writes). After the kit's laws (Derived/Deep/Quiet.lean, Derived/StillTail.lean, Derived/Lib/QuietBelow.lean). No condition. -/
namespace Go.Proofs.Ytfhinmjpokollaa
set_option linter.unusedVariables false
set_option linter.unusedSimpArgs false
set_option linter.constructorNameAsVariable false
open Go.RowKit Go.Sort

section
variable {P : Program} {ops : Array Oper} {md : Region.Mode} {C : World → Prop}
def wpAnyLQ (P : Program) (md : Region.Mode) (ops : Array Oper) (C : World → Prop) (n : Nat) (L : Array Bool → Act → Prop) : Nat → Array Bool → Act → Prop
  | 0, listed, a => L listed a
  | f + 1, listed, a => Region.ready md ops listed ≠ [] ∧ ∀ i ∈ Region.ready md ops listed, i < n ∧ qOp P ops C i (wpAnyLQ P md ops C n L f (listed.setIfInBounds i true)) a
theorem wpAny_of_headQ {n g : Nat} {L : Array Bool → Act → Prop} {Q' : Exit → Act → World → Prop} (hL : ∀ listed a w, C w → L listed a → wpAny P md ops Q' g listed a w) :
    ∀ (f : Nat) (listed : Array Bool) (a : Act) (w : World), C w → wpAnyLQ P md ops C n L f listed a → wpAny P md ops Q' (f + g) listed a w
  | 0, listed, a, w, hw, h => by rw [Nat.zero_add]; exact hL _ _ _ hw h
  | f + 1, listed, a, w, hw, h => by
    rw [show f + 1 + g = (f + g) + 1 by omega]
    exact ⟨fun h0 => absurd h0 h.1, fun i hi => wpOp_of_qOp hw (fun a' w' hw' h' => wpAny_of_headQ hL f _ a' w' hw' h') (h.2 i hi).2⟩
theorem wpAnyLQ_first {n i : Nat} {oi : Oper} {v : Value} {L : Array Bool → Act → Prop} (hi : ops[i]? = some oi) (hsel : ∀ (j : Nat) (o : Oper) cs b, ops[j]? = some o → o.op ≠ .select cs b)
    (hs : Region.sinkB md ops n = true) (hc : Region.chainB md ops n = true) (hn : n < ops.size) (hin : i < n)
    (hdone : ∀ listed a, L listed a → ∀ j ∈ Region.ready md ops listed, n ≤ j) :
    ∀ (f : Nat) (listed : Array Bool) (a : Act), HeadInv md ops n listed →
      (∀ j oj, ops[j]? = some oj → j ≠ i → listed.getD j true = false → (∀ e ∈ oj.after, Region.binds md e = true → e.on ≠ i) → oi.apart ops oj = true) →
      i ∈ Region.ready md ops listed → YieldsIn P ops C oi v a →
      wpAnyLQ P md ops C n L f (listed.setIfInBounds i true) (a.put oi.dst v) → wpAnyLQ P md ops C n L (f + 1) listed a := by
  intro f
  induction f with
  | zero =>
    intro listed a inv _ hr hy H
    have hun := (mem_ready.1 hr).1
    refine ⟨fun h => (by rw [h] at hr; cases hr), fun j hj => ?_⟩
    have hjn : j < n := by
      rcases Nat.lt_or_ge j n with h | h
      · exact h
      · exact absurd hj (tail_waits hs hc hn inv _ i rfl hin hun j h)
    refine ⟨hjn, ?_⟩
    by_cases hji : j = i
    · subst hji; exact hy.qOp hi H
    · have := hdone _ _ H j (ready_mono hj hji)
      omega
  | succ f ih =>
    intro listed a inv hfree hr hy H
    have hun := (mem_ready.1 hr).1
    refine ⟨fun h => (by rw [h] at hr; cases hr), fun j hj => ?_⟩
    have hjn : j < n := by
      rcases Nat.lt_or_ge j n with h | h
      · exact h
      · exact absurd hj (tail_waits hs hc hn inv _ i rfl hin hun j h)
    refine ⟨hjn, ?_⟩
    by_cases hji : j = i
    · subst hji; exact hy.qOp hi H
    · have h1 := (H.2 j (ready_mono hj hji)).2
      obtain ⟨hjun, oj, hoj, hall⟩ := mem_ready.1 hj
      have hnot : ∀ e ∈ oj.after, Region.binds md e = true → e.on ≠ i := fun e he hb heq => by
        have h1 := hall e he hb
        rw [heq, getD_both hun] at h1
        cases h1
      have h2 := qOp_put hoj (hfree j oj hoj hji hjun hnot) (fun cs b => hsel i oi cs b hi) (fun cs b => hsel j oj cs b hoj) hy h1
      have hfree' : ∀ k ok, ops[k]? = some ok → k ≠ i → (listed.setIfInBounds j true).getD k true = false →
          (∀ e ∈ ok.after, Region.binds md e = true → e.on ≠ i) → oi.apart ops ok = true := fun k ok hk hki hun hno => by
        refine hfree k ok hk hki ?_ hno
        by_cases hjk : j = k
        · subst hjk; exact hjun
        · rw [getD_set_ne true hjk] at hun; exact hun
      refine qOp_mono (fun a' h3 => ih (listed.setIfInBounds j true) a' (inv.set hj hjn) hfree' (ready_mono hr (Ne.symm hji)) h3.1 ?_) h2
      rw [Array.setIfInBounds_comm _ _ hji]
      exact h3.2
theorem wpAnyLQ_lex {n g : Nat} {Lq : Act → Prop} (hsel : Region.noSelect ops = true) (hs : Region.sinkB md ops n = true) (hc : Region.chainB md ops n = true) (hn : n < ops.size) :
    ∀ (l : List Oper) (k : Nat) (listed : Array Bool) (a : Act), (∀ j, j < l.length → l[j]? = ops[k + j]?) → k + l.length = n → HeadInv md ops n listed →
    Region.lexHead md ops g l.length k listed = true → wpQuiet P ops C Lq l a →
    wpAnyLQ P md ops C n (fun listed' a' => Region.seqB md ops g n listed' = true ∧ Lq a') l.length listed a
  | [], k, listed, a, _, hk, _, hB, h => by
    have : k = n := by simpa using hk
    subst this
    exact ⟨by simpa [Region.lexHead] using hB, h⟩
  | o :: l, k, listed, a, hl, hk, inv, hB, h => by
    have h0 : ops[k]? = some o := by simpa using (hl 0 (by simp)).symm
    simp only [List.length_cons, Region.lexHead, Bool.and_eq_true] at hB
    obtain ⟨⟨hr, hf⟩, hB'⟩ := hB
    have hkn : k < n := by simp only [List.length_cons] at hk; omega
    have hr' : k ∈ Region.ready md ops listed := by simpa using hr
    have hst : qOp P ops C k (wpQuiet P ops C Lq l) a := by unfold qOp; simp only [h0]; exact h
    obtain ⟨v, hy, hK⟩ := yieldsIn_of_qOp h0 hst
    exact wpAnyLQ_first h0 (Region.noSelect_spec hsel) hs hc hn hkn (fun listed' a' hL => seqB_ready hL.1) l.length listed a inv (Region.free_spec h0 hf) hr' hy
      (wpAnyLQ_lex hsel hs hc hn l (k + 1) _ _ (fun j hj => by have := hl (j + 1) (by simp; omega); simpa [Nat.add_assoc, Nat.add_comm 1 j] using this) (by simp only [List.length_cons] at hk; omega) (inv.set hr' hkn) hB' hK)
theorem wp_region_tail {id : Nat} {Q : Exit → Act → World → Prop} {a : Act} {w : World} {l : List Oper} (n : Nat) (hm : P.follows .mixedOrders = true) (hB : Region.lexTailB .any l.toArray n = true)
    (h : wpQuiet P l.toArray (fun w' => ∃ p : Regrown, w' = grow (redrawn w p.d) p.os) (fun a' => ∀ w', New w w' → wpList P l.toArray Q (l.drop n) a' w') (l.take n) a) : (Code.region id l.toArray true).wp P Q a w := by
  simp only [Region.lexTailB, Bool.and_eq_true, decide_eq_true_eq] at hB
  obtain ⟨⟨⟨⟨hsel, hn⟩, hs⟩, hc⟩, hlex⟩ := hB
  have hn' : n < l.length := by simpa using hn
  have htl : (l.take n).length = n := by rw [List.length_take]; omega
  have hdl : (l.drop n).length = l.toArray.size - n := by simp
  have inv0 : HeadInv .any l.toArray n (Array.replicate l.toArray.size false) :=
    ⟨by simp, fun j oj _ hl => (by rw [getD_replicate_false] at hl; cases hl), fun t _ ht => getD_in (by simpa using ht) (getD_replicate_false _ _)⟩
  have H := wpAnyLQ_lex (md := .any) (g := l.toArray.size - n) hsel hs hc hn (l.take n) 0 _ a (fun j hj => by
    have hj' : j < n := by rw [htl] at hj; exact hj
    simp [hj']) (by simpa using htl) inv0 (by rw [htl]; exact hlex) h
  refine wp_region_any hm ?_
  have := wpAny_of_headQ (Q' := Q) (g := l.toArray.size - n) (C := fun w' => ∃ p : Regrown, w' = grow (redrawn w p.d) p.os) (fun listed a' w' hw' hL => by
    have hN : New w w' := by
      obtain ⟨p, rfl⟩ := hw'
      exact below_regrown w p.d p.os
    have := wpAny_of_seq (md := .any) (Q' := Q) (l.drop n) n listed a' w' (fun j => by simp [List.getElem?_drop]) (by rw [hdl]; exact hL.1) (hL.2 w' hN)
    rwa [hdl] at this) _ _ _ _ ⟨⟨w.drawn + 1, #[]⟩, by rw [grow_empty] <;> rfl⟩ H
  rw [htl, show n + (l.toArray.size - n) = l.toArray.size by omega] at this
  exact this
end
end Go.Proofs.Ytfhinmjpokollaa
/- The law's Is: a table that has what the reference's has. No condition but that both can be read. -/
namespace Go.Proofs.Ytfhinmjpokollaa
set_option linter.unusedVariables false
set_option linter.unusedSimpArgs false
set_option linter.constructorNameAsVariable false
open Go.RowKit Go.Maps Go.Sort
attribute [local go_sem] Oper.semAt_some

/-- What Is's rounds leave. -/
def IsI (b5 : Nat) (w2 : World) (s : List (List Int × Fm)) (W : World) : Prop := Fr (fun j => b5 ≤ j) w2 W ∧ Blk W b5 3 #[.int .i64 s.length]
theorem IsI.new {b5 : Nat} {w2 : World} {s : List (List Int × Fm)} {W W' : World} (h : IsI b5 w2 s W) (hN : New W W') : IsI b5 w2 s W' := ⟨h.1.trans (hN.toFr _), hN.blk h.2⟩
theorem IsI.puts {b5 B : Nat} {w2 : World} {s : List (List Int × Fm)} {W W' : World} (h : IsI b5 w2 s W) (hz : b5 ≤ B) (hp : Puts B W W') : IsI b5 w2 s W' := ⟨h.1.trans (hp.fr (fun j hj => Nat.le_trans hz hj)), hp.blk h.2⟩
theorem cl_at {L : List Ch} {E : Tab} (h : cl L = sct (cont E)) {k : Nat} {e : List Int × Fm} (he : (st E)[k]? = some e) : ∃ hk : k < L.length, L[k].k.xs = e.1 ∧ L[k].v.xs = e.2.xs := by
  have h2 : (cont (st E))[k]? = some (e.1, e.2.xs) := by
    unfold cont
    rw [List.getElem?_map, he]
    rfl
  rw [cont_st, ← h] at h2
  unfold cl at h2
  rw [List.getElem?_map] at h2
  obtain ⟨c, hc, hce⟩ := Option.map_eq_some_iff.1 h2
  obtain ⟨hk, hck⟩ := List.getElem?_eq_some_iff.1 hc
  injection hce with h3 h4
  exact ⟨hk, by rw [hck, h3], by rw [hck, h4]⟩
set_option maxHeartbeats 4000000 in
set_option maxRecDepth 100000 in
theorem is_any {X : Nat → Prop} {w : World} {base g b m : Nat} {E : Tab} (h : TbIn X w base g b m E) (hm : m ≤ 1000000) (hE : E.length ≤ 1000000) (A : Option Addr) (n c : Nat) (L : List Ch) (hL : RTb w A n L) (hl : ∀ c ∈ L, c.k.n ≤ 16 ∧ c.v.n ≤ 16384) (hc : cl L = sct (cont E)) :
    Calls Try.prog 22 #[.pointer (some ⟨g, 0, none⟩), .slice A n c] w fun e w' => e = .returned (.bool true) ∧ New w w' := by
  have H := Lib.hid h
  have HL := Lib.hid hL
  have HS := Lib.hid hl
  have HC := Lib.hid hc
  have hn : n = E.length := by
    have := congrArg List.length hc
    unfold cl at this
    rw [List.length_map, (sct_perm _).length_eq, cont_len] at this
    rw [← hL.len, this]
  have HN := Lib.hid hn
  have hX : ∀ j, X j → j < w.heap.size := fun j hj => by
    obtain ⟨_, cs, fz, hx⟩ := h.xs j hj
    exact (Array.getElem?_eq_some_iff.1 hx).1
  have HX := Lib.hid hX
  have hn1 : n ≤ 1000000 := by omega
  clear h hL hl hc hX hn
  refine (callsIn_wide (n := 3)).1 ?_
  refine callsIn_of_wp_marks Try.func22 rfl trivial ?_ rfl
  refine wpIn_wide.2 ?_
  simp only [Try.ntmps22, List.size_toArray, List.length_cons, List.length_nil, Nat.reduceAdd, Nat.reduceSub, Array.replicate_succ, Array.replicate_zero, List.push_toArray, List.append_toArray, List.nil_append, List.cons_append]
  go_upto_region 2 with fail
  obtain ⟨w1, hw1⟩ : ∃ w1 : World, w1 = ((w.alloc (.cells #[.slice A n c] 27)).alloc (.cells #[.bool false] 4)).alloc (.cells #[.int .i64 0] 3) := ⟨_, rfl⟩
  obtain ⟨b3, hb3⟩ : ∃ b3, b3 = w.heap.size := ⟨_, rfl⟩
  obtain ⟨b4, hb4⟩ : ∃ b4, b4 = w.heap.size + 1 := ⟨_, rfl⟩
  obtain ⟨b5, hb5⟩ : ∃ b5, b5 = w.heap.size + 1 + 1 := ⟨_, rfl⟩
  have HN1 : Hid (New w w1) := Lib.hid (by rw [hw1]; exact New.al (New.al (New.al (New.refl _) _) _) _)
  have HB3 : Hid (Blk w1 b3 27 #[.slice A n c]) := Lib.hid (by rw [hw1, hb3]; exact ((Blk.new _ _ _).alloc _).alloc _)
  have HB4 : Hid (Blk w1 b4 4 #[.bool false]) := Lib.hid (by rw [hw1, hb4]; exact (Blk.new' _ _ _ (by simp)).alloc _)
  have HB5 : Hid (Blk w1 b5 3 #[.int .i64 0]) := Lib.hid (by rw [hw1, hb5]; exact Blk.new' _ _ _ (by simp))
  have HZ : Hid (b3 = w.heap.size ∧ b4 = w.heap.size + 1 ∧ b5 = w.heap.size + 2) := Lib.hid ⟨hb3, hb4, by omega⟩
  rw [← hw1, ← hb5, ← hb4, ← hb3]
  clear hw1 hb3 hb4 hb5
  go_wp2_with fail
  refine (all_any (some ⟨g, 0, none⟩) w1).mono ?_
  rintro e w2 ⟨rfl, hw2⟩
  have HN2 : Hid (New w1 w2) := Lib.hid (by rw [hw2]; exact New.al (New.refl _) _)
  have hg := H.out.blk.lt
  have hb := H.out.blt
  have h1z := HB5.out.lt
  have hz3 := HZ.out
  have HS1 := Lib.hid (all1_live (H.out.new (HN1.out.tr HN2.out)) hm hE (fun j => j = b5) w1.heap.size (by rw [hw2]; exact Blk.new w1 _ _) (fun j hj => by
    subst hj
    have := HN2.out.size
    exact ⟨by omega, by omega, by omega, fun hx => by have := HX.out _ hx; omega, by omega⟩))
  have HB52 : Hid (Blk w2 b5 3 #[.int .i64 0]) := Lib.hid (HN2.out.blk HB5.out)
  have HZB : Hid (b5 < w2.heap.size) := Lib.hid (HB52.out.lt)
  clear hw2 hg hb h1z hz3
  go_wp2_with fail
  refine wp_rangeR rfl (enters_of Try.func44 (by kernel_rfl) rfl) (fun x : List Int × Fm => #[.string (strOfNums x.1), x.2.val]) (fun _ => rfl) HS1.out (fun x W W' hg hp => hg.puts hp) (fun h k => h.tr k) (fun W W' hp => Kk.puts hp)
    (IsI b5 w2) (fun s A B h hN => h.new hN) (fun s A B h hp => h.puts (Nat.le_of_lt HZB.out) hp) ⟨Fr.refl _ _, HB52.out⟩ ?a1 ?assign ?body ?done
  case assign =>
    intro l x W K hK
    gi_wp2
    exact hK
  case body =>
    rintro l pre x W hpl ⟨hF, hB⟩ hG ⟨e0, he0, hx1, hx2, hx3⟩
    obtain ⟨hkL, hck, hcv⟩ := cl_at HC.out he0
    rw [← hx1] at hck
    rw [← hx2] at hcv
    have HNW : Hid (New w W) := Lib.hid ((HN1.out.tr HN2.out).fr hF (fun k hk => by have := HZ.out; omega))
    have hB3W : Blk W b3 27 #[.slice A n c] := (HN2.out.blk HB3.out).fr hF (by have := HZ.out; omega)
    have c5 : W.cell? ⟨b5, 0, none⟩ = some (.int .i64 (pre.length : Nat)) := hB.cell 0
    have f5 : W.frozen? ⟨b5, 0, none⟩ = false := hB.frozen 0
    have c3 : W.cell? ⟨b3, 0, none⟩ = some (.slice A n c) := hB3W.cell 0
    have hTB := HL.out.new HNW.out
    have hkn : pre.length < n := by rw [← HL.out.len]; exact hkL
    obtain ⟨gA, oA, hl, hA, -, -, hrg⟩ := rd_row (f := Ch.cells) (L := L) (fun _ => rfl) (by omega) hTB.rd hkn
    have v0 : W.cell? ⟨gA, oA + pre.length * 3, none⟩ = some (.slice L[pre.length].k.A L[pre.length].k.n L[pre.length].k.c) := hrg 0 _ rfl
    have v1 : W.cell? ⟨gA, oA + pre.length * 3 + 1, none⟩ = some (.slice L[pre.length].v.A L[pre.length].v.n L[pre.length].v.c) := hrg 1 _ rfl
    have hin := hTB.el L[pre.length] (List.getElem_mem _)
    generalize L[pre.length] = y at hck hcv v0 v1 hin
    obtain ⟨⟨kA, kn, kc, ks⟩, ⟨vA, vn, vc, vs⟩, dd⟩ := y
    dsimp only at hck hcv v0 v1
    subst hck hcv
    obtain ⟨k, hk⟩ : ∃ k, k = pre.length := ⟨_, rfl⟩
    rw [← hk] at c5 v0 v1 hkn
    have HB := Lib.hid hB
    have HF := Lib.hid hF
    have HK := Lib.hid hk
    have hcvt := run_conv (c := kc) hin.k.rd
    dsimp only at hcvt
    obtain ⟨xk, xA, xn, xc, xs⟩ := x
    dsimp only at hcvt hG hin v0 v1
    have hbt := bytes_any xA vA xn vn xc vc xs xs W (Rd.own hG.1 rfl) hin.v.rd hG.2.1 hG.2.1
    have hts : decide (xs = xs) = true := by simp
    rw [hts] at hbt
    have HBT := Lib.hid hbt
    simp only [Fm.val]
    generalize strOfNums xk = sk at hcvt ⊢
    have hk0 : (0 : Int) ≤ (k : Int) := by omega
    have hkn2 : (k : Int) < (n : Int) := by omega
    have hdc : decide ((n : Int) ≤ (k : Int)) = false := decide_eq_false (by omega)
    have hdn : decide (n ≤ k) = false := decide_eq_false (by omega)
    clear hbt hB hF hG hx1 hx2 hx3 he0 hk hin hrg hTB hl hB3W hts hkL hpl
    subst hA
    gi_wp2
    refine ⟨trivial, ?_⟩
    refine (CallsIn.inRound l (callsIn_wide.2 HBT.out)).mono ?_
    rintro e W4 ⟨rfl, rfl⟩
    gi_wp2
    have hFW : Fr (fun j => j = b5) W (W.setCell ⟨b5, 0, none⟩ (.int .i64 (k + 1))) := (Fr.refl (fun j => j = b5) W).setCell (p := ⟨b5, 0, none⟩) (fun _ => rfl) _
    refine ⟨Kept.fr hFW (fun k o hB hs => by have := HZB.out; omega), Kk.fr hFW, HF.out.trans (hFW.mono (fun k _ hs => by omega)), ?_⟩
    have hs := HB.out.set 0 (.int .i64 (k + 1))
    rw [List.length_append, List.length_singleton, ← HK.out]
    simpa using hs
  case done =>
    rintro D fs W hD hfs ⟨hF, hB⟩ hDm
    have HNW : Hid (New w W) := Lib.hid ((HN1.out.tr HN2.out).fr hF (fun k hk => by have := HZ.out; omega))
    have HDM := Lib.hid hDm
    have hlen : fs.length = n := by
      have := congrArg List.length hfs
      rw [List.length_map, cont_len, st_len] at this
      rw [this, HN.out]
    rw [hlen] at hB
    have hB3W : Blk W b3 27 #[.slice A n c] := (HN2.out.blk HB3.out).fr hF (by have := HZ.out; omega)
    have HB4W : Hid (Blk W b4 4 #[.bool false]) := Lib.hid ((HN2.out.blk HB4.out).fr hF (by have := HZ.out; omega))
    have k5 := cell_regrown (show W.cell? ⟨b5, 0, none⟩ = some (.int .i64 (n : Nat)) from hB.cell 0)
    have k3 := cell_regrown (show W.cell? ⟨b3, 0, none⟩ = some (.slice A n c) from hB3W.cell 0)
    obtain ⟨z, hz⟩ : ∃ z, z = csize (cont E) := ⟨_, rfl⟩
    have cA := calls_regrown (w := W) (v := .int .i64 n) (f := 28) (args := #[.pointer (some ⟨g, 0, none⟩)]) (fun W' hN => (len_any (H.out.new (HNW.out.tr hN)) hm hE).mono fun e w h => ⟨by rw [HN.out]; exact h.1, h.2⟩)
    have cB := calls_regrown (w := W) (v := .int .i64 z) (f := 29) (args := #[.pointer (some ⟨g, 0, none⟩)]) (fun W' hN => (size_any (H.out.new (HNW.out.tr hN)) hm hE).mono fun e w h => ⟨by rw [hz]; exact h.1, h.2⟩)
    have cC := calls_regrown (w := W) (v := .int .i64 z) (f := 40) (args := #[.slice A n c]) (fun W' hN => (rsize_any A n c L W' (HL.out.new (HNW.out.tr hN)).rd HL.out.len (by omega) HS.out).mono fun e w h => ⟨by rw [hz, ← rsz_csize HC.out (fun c hc => ⟨(HL.out.el c hc).k.len, (HL.out.el c hc).v.len⟩)]; exact h.1, h.2⟩)
    have hF2 := Lib.hid hF
    clear hF hB hB3W hfs hlen hz hDm
    dsimp only
    go_wp2_with fail
    refine wp_region_tail 17 (by kernel_rfl) (by kernel_rfl) ?_
    simp only [List.take_succ_cons, List.take_zero, List.drop_succ_cons, List.drop_zero]
    repeat (quiet_step (first | exact cA _ _ | exact cB _ _ | exact cC _ _))
    refine wpQuiet_nil ?_
    intro Wq hNq
    have HNq : Hid (New W Wq) := Lib.hid hNq
    have c4 : Wq.cell? ⟨b4, 0, none⟩ = some (.bool false) := (hNq.blk HB4W.out).cell 0
    have f4 : Wq.frozen? ⟨b4, 0, none⟩ = false := (hNq.blk HB4W.out).frozen 0
    clear k5 k3 cA cB cC hNq
    go_wp2_with fail
    have hF : Fr (fun j => j = b4) Wq (Wq.setCell ⟨b4, 0, none⟩ (.bool true)) := (Fr.refl (fun j => j = b4) Wq).setCell (p := ⟨b4, 0, none⟩) (fun _ => rfl) _
    have hB : Blk (Wq.setCell ⟨b4, 0, none⟩ (.bool true)) b4 4 #[.bool true] := (HNq.out.blk HB4W.out).set 0 _
    refine leaves_marks [D] _ (((Marks.cons (Marks.nil w2.heap.size W) (fun _ h => by cases h) hD HDM.out).new HNq.out).fr hF (fun D hD => ?_)) (fun W' hS => ⟨.bool true, ?_, rfl, ?_⟩)
    · subst hD
      exact not_def_blk (HNq.out.blk HB4W.out)
    · have hc : W'.cell? ⟨b4, 0, none⟩ = some (.bool true) := by
        have h1 : W'.heap[b4]? = _ := hS.cells b4 _ hB rfl
        exact (show Blk W' b4 4 #[.bool true] from h1).cell 0
      simp [results, Try.results22, go_sem, hc]
    · have hz : w.heap.size ≤ w2.heap.size := (HN1.out.tr HN2.out).size
      exact (New.fr (HNW.out.tr HNq.out) hF (fun k hk => by have := HZ.out; omega)).trans (hS.below.mono hz)
end Go.Proofs.Ytfhinmjpokollaa
