/- Texts of one proof, one behind the other: HmJ. No condition but each one's own. -/
import Derived.Test.YtmibndkofoldkaaGreatDoorClientNilM3
namespace Go.Proofs.YtmibndkofoldkaaGreatDoor
set_option linter.unusedVariables false
set_option linter.unusedSimpArgs false
set_option linter.constructorNameAsVariable false
open Go.RowKit Go.Sort
theorem fresh_rd {w w' : World} {v : Value} {l : List Int} (hbyt : Byt l) (hF : Lib.FreshBytes w.heap.size w' v (u8b l)) : ∃ A d, v = .slice A l.length d ∧ Rd (fun k => w.heap.size ≤ k) w' 1 A l.length (u8s l) := by
 obtain ⟨g, cap, zs, rfl, hg, hcg, hcm, hz, hzb, hzt, hcs, -⟩ := hF
 rw [u8b_len] at hcg hzt ⊢
 have hzt2 : zs.take l.length = l := u8b_inj (fun x hx => hzb x (List.mem_of_mem_take hx)) hbyt hzt
 refine ⟨_, _, rfl, ⟨by rw [u8s_len, Nat.mul_one], fun hn => ⟨_, rfl, hg, ?_, fun j u hu => ?_⟩⟩⟩
 · have := hcs 0 (by omega)
   exact World.block_lt_of_cell? w' _ this
 · have hjl : j < l.length := by
    have := (List.getElem?_eq_some_iff.1 hu).1
    rwa [u8s_len] at this
   rw [add_own, hcs j (by omega), ← hu]
   unfold u8s
   rw [List.getElem?_map]
   have e1 : l[j]? = zs[j]? := by
    rw [← hzt2, List.getElem?_take_of_lt hjl]
   rw [e1, List.getD_eq_getElem?_getD, List.getElem?_eq_getElem (by omega)]
   rfl
theorem join_one (b o c : Nat) (l : List Int) (w : World) (h1 : 1 ≤ l.length) (hP : Parts w b o [l]) (hlen : l.length ≤ 1000000000) :
    Calls Tryz.prog 190 #[.slice (some ⟨b, o, none⟩) 1 c, .slice none 0 0] w fun e w' => ∃ A d, e = .returned (.slice A l.length d) ∧ Rd (fun k => w.heap.size ≤ k) w' 1 A l.length (u8s l) ∧ New w w' := by
 obtain ⟨hb, A, d, hc, hR⟩ := hP.at_ 0 l rfl
 obtain ⟨ad, rfl, -, -, hcc⟩ := hR.2 (by omega)
 have hl : (u8b l).length = l.length := u8b_len l
 have hj := Any.bytes_Join_one joinL b o c ad d (u8b l) (.slice none 0 0) w (by rw [hl]; exact hc) (fun j x hx => by
  have hj : j < l.length := by
   have := (List.getElem?_eq_some_iff.1 hx).1
   rwa [u8b_len] at this
  have hxe : x = UInt8.ofNat (l[j]).toNat := by
   unfold u8b at hx
   rw [List.getElem?_map, List.getElem?_eq_getElem hj] at hx
   injection hx with hx
   exact hx.symm
  have hb2 := hb l[j] (List.getElem_mem _)
  have hxn : ((x.toNat : Nat) : Int) = l[j] := by
   rw [hxe, UInt8.toNat_ofNat']
   omega
  rw [hxn]
  exact hcc j _ (by unfold u8s; rw [List.getElem?_map, List.getElem?_eq_getElem hj]; rfl)) (by omega) (by omega)
 refine hj.mono ?_
 rintro e w' ⟨v', rfl, hF, hB⟩
 obtain ⟨A', d', rfl, hR'⟩ := fresh_rd hb hF
 exact ⟨_, _, rfl, hR', hB⟩
theorem joinm (b o c : Nat) (ls : List (List Int)) (m : Nat) (hm : m = ls.length) (w : World) (h0 : 1 ≤ ls.length) (h1 : ls.length = 1 → 1 ≤ ls.flatten.length) (hP : Parts w b o ls) (hcap : ls.length ≤ c) (hlen : ls.flatten.length ≤ 1000000000) (hln : ls.length ≤ 1000000) :
    Calls Tryz.prog 190 #[.slice (some ⟨b, o, none⟩) m c, .slice none 0 0] w fun e w' => ∃ A d, e = .returned (.slice A ls.flatten.length d) ∧ Rd (fun k => w.heap.size ≤ k) w' 1 A ls.flatten.length (u8s ls.flatten) ∧ New w w' := by
 subst hm
 match ls with
 | [] => exact absurd h0 (by decide)
 | [l] =>
  have e : [l].flatten = l := by simp
  rw [e] at hlen h1 ⊢
  exact join_one b o c l w (h1 rfl) hP hlen
 | l1 :: l2 :: r => exact join_any b o c _ w (by simp) hP hcap hlen hln
end Go.Proofs.YtmibndkofoldkaaGreatDoor
