/- CacheFinds' walk. -/
import Derived.Test.YtpomcnfifhfffaaCaM
import Derived.Test.YtpomcnfifhfffaaCaO
namespace Go.Proofs.Ytpomcnfifhfffaa
open Go.RowKit Go.Maps

/-- An act with what its bytes are. -/
structure AB where
  av : AV
  rq : List Int
  rp : List Int
def AB.kv (a : AB) : KV := ⟨a.av.id, a.av.seq, a.rq, a.rp⟩
structure AB.Good (w : World) (a : AB) : Prop where
  id : 0 ≤ a.av.id ∧ a.av.id < 18446744073709551616
  seq : 0 ≤ a.av.seq ∧ a.av.seq < 18446744073709551616
  rdq : Rd (fun b => b < w.heap.size) w 1 a.av.A a.av.n (u8s a.rq)
  rdp : Rd (fun b => b < w.heap.size) w 1 a.av.B a.av.k (u8s a.rp)
  bq : Byt a.rq
  bp : Byt a.rp
  nq : a.av.n ≤ 140737488355328
  np : a.av.k ≤ 140737488355328
theorem rd_out {w w' : World} {base s n : Nat} {A : Option Addr} {xs : List Value} (h : Rd (fun b => b < w.heap.size) w s A n xs) (hN : New w w') (hb : w.heap.size ≤ base) : Rd (Out base w') w' s A n xs :=
  (hN.rd h).imp fun k hk => .inl (by omega)

/-- What the first loop holds. -/
def LI (w0 : World) (base g bm : Nat) (L : List AB) (j : Nat) (wr : World) : Prop :=
  ∃ v m f S, Ca wr base g v bm m f S j ∧ Holds ((L.take j).map AB.kv) S ∧ New w0 wr

theorem last_at {K : List KV} {a q : Int} {rq rp : List Int} (h : LastOf K a q rq rp) {t : Nat} (ht : t < K.length) (hk : K[t].id = a ∧ K[t].seq = q) (hl : ∀ (j : Nat) (hj : j < K.length), t < j → ¬ (K[j].id = a ∧ K[j].seq = q)) : K[t].req = rq ∧ K[t].rep = rp := by
  obtain ⟨i, hi, h1, h2, h3, h4, h5⟩ := h
  rcases Nat.lt_trichotomy i t with e | e | e
  · exact absurd hk (h5 t ht e)
  · subst e; exact ⟨h3, h4⟩
  · exact absurd ⟨h1, h2⟩ (hl i hi e)
theorem last_no {K : List KV} {a q : Int} {rq rp : List Int} (h : LastOf K a q rq rp) (hl : ∀ (j : Nat) (hj : j < K.length), ¬ (K[j].id = a ∧ K[j].seq = q)) : False := by
  obtain ⟨i, hi, h1, h2, h3, h4, h5⟩ := h
  exact hl i hi ⟨h1, h2⟩
/-- What the second loop holds. -/
def LJ (w6 : World) (K : List KV) (i q : Int) (z : Int) (wr : World) : Prop := New w6 wr ∧ ∀ (j : Nat) (hj : j < K.length), z < (j : Int) → ¬ (K[j].id = i ∧ K[j].seq = q)

set_option maxHeartbeats 8000000 in
set_option maxRecDepth 100000 in
theorem finds_walk (A1 : Option Addr) (n1 c1 : Nat) (L : List AB) (x : AB) (w : World) (hL : L.length = n1) (hn : n1 ≤ maxLen) (hR : Rd (fun b => b < w.heap.size) w 5 A1 n1 ((L.map AB.av).flatMap AV.cells)) (hg : ∀ a ∈ L, a.Good w) (hx : x.Good w) :
    Calls Try.prog 3 #[.slice A1 n1 c1, .agg x.av.cells.toArray] w fun e w' => e = .returned (.bool true) ∧ New w w' := by
  have HR := Lib.hid hR
  have HMX := Lib.hid hn
  have HL := Lib.hid hL
  have HG := Lib.hid hg
  have HX := Lib.hid hx
  obtain ⟨⟨i, q, A, n, c, B, k, d, dr⟩, rq, rp⟩ := x
  simp only [AV.cells]
  clear hR hL hg hx hn
  go_enter Try.func3, Try.ntmps3
  go_wp2_with fail
  obtain ⟨w0, hw0⟩ : ∃ w0 : World, w0 = w.alloc (.cells #[.int .u64 i, .int .u64 q, .slice A n c, .slice B k d, .bool dr] 26) := ⟨_, rfl⟩
  have HN0 : Hid (New w w0) := Lib.hid (by rw [hw0]; exact New.al (New.refl _) _)
  have HB0 : Hid (Blk w0 w.heap.size 26 #[.int .u64 i, .int .u64 q, .slice A n c, .slice B k d, .bool dr]) := Lib.hid (by rw [hw0]; exact Blk.new _ _ _)
  have hsz0 : w0.heap.size = w.heap.size + 1 := by rw [hw0]; simp
  rw [← hw0]
  clear hw0
  refine (alive_any w0).mono ?_
  rintro e w1 ⟨rfl, hN1⟩
  have HN1 : Hid (New w0 w1) := Lib.hid hN1
  clear hN1
  go_wp2_with fail
  refine (long_law A1 n1 c1 (L.map AB.av) w1 ((HN0.out.tr HN1.out).rd HR.out) (by simp [HL.out]) HMX.out (fun a ha => by obtain ⟨y, hy, rfl⟩ := List.mem_map.1 ha; exact ⟨(HG.out y hy).nq, (HG.out y hy).np⟩)).mono ?_
  rintro e w2 ⟨⟨b, rfl, hbl⟩, hN2⟩
  have HBL := Lib.hid hbl
  clear hbl
  have HN2 : Hid (New w0 w2) := Lib.hid (HN1.out.tr hN2)
  clear hN2
  have hsz2 := HN2.out.size
  rcases b with _ | _
  rotate_left
  · go_wp2_with fail
    go_ret
    exact ⟨rfl, HN0.out.tr HN2.out⟩
  have hn : n1 ≤ 250 := (HBL.out rfl).1
  have HLB : Hid (∀ a ∈ L, a.av.n ≤ 20000 ∧ a.av.k ≤ 20000) := Lib.hid (fun a ha => (HBL.out rfl).2 a.av (List.mem_map_of_mem ha))
  clear HBL HMX
  go_wp2_with fail
  refine (cnew_any w2.heap.size w2 (Nat.le_refl _)).mono ?_
  rintro e w3 ⟨rfl, hC3, hN3⟩
  have HN3 : Hid (New w0 w3) := Lib.hid (HN2.out.tr hN3)
  have HC3 := Lib.hid hC3
  clear hC3 hN3
  go_wp2_with fail
  obtain ⟨g, hg⟩ : ∃ g, g = w2.heap.size + 1 := ⟨_, rfl⟩
  obtain ⟨bm, hbm⟩ : ∃ bm, bm = w2.heap.size := ⟨_, rfl⟩
  have HI3 : Hid (LI w0 w2.heap.size g bm L 0 w3) := Lib.hid ⟨_, _, _, _, by rw [hg, hbm]; exact HC3.out, Holds.nil _, HN3.out⟩
  rw [← hg]
  generalize hbase : w2.heap.size = base at HI3 hsz2 hg hbm
  clear HC3 HN3 HN2 HN1 hg hbm hbase
  go_loopw [21] (fun i wr => ∃ (j : Nat), j ≤ n1 ∧ i = .int .i64 j ∧ Hid (LI w0 base g bm L j wr)) (fun i _ => n1 - (intOf i).toNat)
  case atStart => exact ⟨0, by omega, rfl, HI3⟩
  case round =>
    obtain ⟨j, hj, rfl, HI⟩ := hrel
    by_cases hlt : j < n1
    · as_aux_lemma =>
        obtain ⟨v, m, f, S, hC, hH, hN⟩ := HI.out
        obtain ⟨gA, oA, hl, rfl, -, hgl, c0, c1, c2, c3, c4⟩ := rd_av ((HN0.out.tr hN).rd HR.out) (by simp [HL.out]) hlt
        have hl' : j < L.length := by simpa using hl
        simp only [List.getElem_map] at c0 c1 c2 c3 c4
        have ha := HG.out L[j] (List.getElem_mem _)
        have hlb := HLB.out L[j] (List.getElem_mem _)
        have hkv : (L.take (j + 1)).map AB.kv = (L.take j).map AB.kv ++ [L[j].kv] := by rw [List.take_succ_eq_append_getElem hl', List.map_append]; rfl
        generalize L[j] = a at c0 c1 c2 c3 c4 ha hkv hlb
        obtain ⟨⟨ia, qa, Aa, na, ca, Ba, ka, da, dra⟩, rqa, rpa⟩ := a
        dsimp only at c0 c1 c2 c3 c4
        have HA := Lib.hid ha
        have HKV := Lib.hid hkv
        have HLL := Lib.hid hlb
        have HC := Lib.hid hC
        have HH := Lib.hid hH
        have HNr : Hid (New w0 wr) := Lib.hid hN
        clear ha hkv hlb hC hH hN hl hl' hgl HI HI3
        go_wp2_with fail
        obtain ⟨w4, hw4⟩ : ∃ w4 : World, w4 = wr.alloc (.cells #[.int .u64 ia, .int .u64 qa, .slice Aa na ca, .slice Ba ka da, .bool dra] 26) := ⟨_, rfl⟩
        have HN4 : Hid (New wr w4) := Lib.hid (by rw [hw4]; exact New.al (New.refl _) _)
        have HB4 : Hid (Blk w4 wr.heap.size 26 #[.int .u64 ia, .int .u64 qa, .slice Aa na ca, .slice Ba ka da, .bool dra]) := Lib.hid (by rw [hw4]; exact Blk.new _ _ _)
        try rw [← hw4]
        clear hw4 c0 c1 c2 c3 c4
        have HNw4 : Hid (New w w4) := Lib.hid ((HN0.out.tr HNr.out).tr HN4.out)
        refine (keep_any base g v bm m f S j ia qa Aa Ba na ca ka da rqa rpa w4 (HC.out.new HN4.out) HA.out.id HA.out.seq (by omega) (rd_out HA.out.rdq HNw4.out (by omega)) (rd_out HA.out.rdp HNw4.out (by omega)) HA.out.bq HA.out.bp (by have := HLL.out.1; omega) (by have := HLL.out.2; omega) _ HH.out).mono ?_
        rintro e w5 ⟨rfl, v5, f5, S5, s5, hC5, hH5, hs5, hid5, hr5, hF5, hT5⟩
        have hb5 := HB4.out.fr hT5 (fun hk => by have := (HC.out.cb hk).2; omega)
        have HNw5 : Hid (New w w5) := Lib.hid (HNw4.out.fr hF5 (fun k hk => by have := hk.1; omega))
        have HN05 : Hid (New w0 w5) := Lib.hid ((HNr.out.tr HN4.out).fr hF5 (fun k hk => by have := hk.1; omega))
        have HC5 := Lib.hid hC5
        have HH5 : Hid (Holds ((L.take (j + 1)).map AB.kv) S5) := Lib.hid (by rw [HKV.out]; exact hH5)
        have HS5 := Lib.hid hs5
        have HR5 := Lib.hid hr5
        have HI5 := Lib.hid hid5
        have HB5 := Lib.hid hb5
        have i0 := hb5.cell 0
        have i1 := hb5.cell 1
        have i2 := hb5.cell 2
        have i3 := hb5.cell 3
        clear hb5 hC5 hH5 hs5 hid5 hr5 hF5 hT5 HB4
        go_wp2_with fail
        have hf := find_hit base g v5 bm _ f5 S5 _ s5 ⟨qa, rqa, rpa⟩ Aa na ca rqa w5 HC5.out HS5.out HR5.out (rd_out HA.out.rdq HNw5.out (by omega)) HA.out.bq rfl
        rw [HI5.out] at hf
        refine hf.mono ?_
        clear hf
        rintro e w6 ⟨⟨A6, n6, c6, rfl, hO6, hn6⟩, hN6⟩
        have HN6 : Hid (New w5 w6) := Lib.hid hN6
        have HO6 := Lib.hid hO6
        have j3 := (New.blk HN6.out HB5.out).cell 3
        have j0 := (New.blk HN6.out HB5.out).cell 0
        have hbt := bytes_any A6 Ba n6 ka c6 da rpa rpa w6 HO6.out.1 (HNw5.out.tr HN6.out |>.rd HA.out.rdp) HO6.out.2 HA.out.bp
        rw [show decide (rpa = rpa) = true from decide_eq_true rfl] at hbt
        have hln := len_in base g v5 bm _ f5 S5 _ s5 w6 (HC5.out.new HN6.out) HS5.out
        rw [HI5.out] at hln
        have h64 : s5.R.length ≤ 64 := (HC5.out.ins s5 HS5.out).1.len
        generalize s5.R.length = nl at hln h64
        have h64' : decide ((64 : Int) < (nl : Int)) = false := decide_eq_false (by omega)
        have h8 : decide ((8 : Int) < (S5.length : Int)) = false := decide_eq_false (by have := HC5.out.len; omega)
        have HBT := Lib.hid hbt
        have HLN := Lib.hid hln
        clear hO6 hN6 i0 i1 i2 i3 hbt hln
        go_wp2_with fail
        refine HBT.out.mono ?_
        rintro e w7 ⟨rfl, rfl⟩
        go_wp2_with fail
        refine HLN.out.mono ?_
        rintro e w7 ⟨rfl, rfl⟩
        go_wp2_with fail
        refine (sess_any base g v5 bm _ f5 S5 _ w6 (HC5.out.new HN6.out)).mono ?_
        rintro e w7 ⟨⟨A7, c7, rfl, -⟩, hN7⟩
        have HN7 : Hid (New w6 w7) := Lib.hid hN7
        clear hN7
        go_wp2_with fail
        go_roundw
        case rel => exact ⟨j + 1, by omega, by go_num, Lib.hid ⟨_, _, _, _, (HC5.out.new HN6.out).new HN7.out, HH5.out, (HN05.out.tr HN6.out).tr HN7.out⟩⟩
        case measure => simp [intOf]; omega
    · obtain rfl : j = n1 := by omega
      obtain ⟨v, m, f, S, hC, hH, hN⟩ := HI.out
      rw [List.take_of_length_le (by rw [HL.out]; omega)] at hH
      have HC := Lib.hid hC
      have HH := Lib.hid hH
      have HNw : Hid (New w wr) := Lib.hid (HN0.out.tr hN)
      have hb := New.blk hN HB0.out
      have i0 := hb.cell 0
      have i1 := hb.cell 1
      have i2 := hb.cell 2
      have i3 := hb.cell 3
      clear HI3 HI hC hH hN
      go_wp2_with fail
      refine (find_any base g v bm m f S j i q A n c rq wr HC.out HX.out.id HX.out.seq (rd_out HX.out.rdq HNw.out (by omega)) HX.out.bq).mono ?_
      rintro e w6 ⟨hres, hN6⟩
      generalize j = n1 at *
      rcases hres with hres | hres
      · as_aux_lemma =>
        subst hres
        have HN06 : Hid (New w w6) := Lib.hid (HNw.out.tr hN6)
        have HB6 := Lib.hid (New.blk hN6 hb)
        clear hN6 hb i0 i1 i2 i3
        go_wp2_with fail
        go_loopw [12] (fun p wr => ∃ (z : Int), -1 ≤ z ∧ z < n1 ∧ p = .int .i64 z ∧ Hid (LJ w6 (L.map AB.kv) i q z wr)) (fun p _ => (intOf p + 1).toNat)
        case atStart => exact ⟨(n1 : Int) - 1, by omega, by omega, by go_num, Lib.hid ⟨New.refl _, fun j hj hz => by simp [HL.out] at hj; omega⟩⟩
        case round =>
          obtain ⟨z, hz1, hz2, rfl, HJ⟩ := hrel
          by_cases hz : z < 0
          · have hz0 : z = -1 := by omega
            subst hz0
            go_wp2_with fail
            go_ret
            exact ⟨rfl, HN06.out.tr HJ.out.1⟩
          · obtain ⟨t, rfl⟩ := Int.eq_ofNat_of_zero_le (by omega : 0 ≤ z)
            have htn : t < n1 := by omega
            obtain ⟨gA, oA, hl, rfl, -, hgl, c0, c1', c2, c3, c4⟩ := rd_av ((HN06.out.tr HJ.out.1).rd HR.out) (by simp [HL.out]) htn
            have hl' : t < L.length := by simpa using hl
            simp only [List.getElem_map] at c0 c1' c2 c3 c4
            have ha := HG.out L[t] (List.getElem_mem _)
            obtain ⟨a, hae⟩ : ∃ a, a = L[t] := ⟨_, rfl⟩
            rw [← hae] at c0 c1' c2 c3 c4 ha
            obtain ⟨⟨ia, qa, Aa, na, ca, Ba, ka, da, dra⟩, rqa, rpa⟩ := a
            dsimp only at c0 c1' c2 c3 c4
            have HA := Lib.hid ha
            have hb := New.blk HJ.out.1 HB6.out
            have i0 : ∀ o : Obj, (wr.alloc o).cell? ⟨w.heap.size, 0, none⟩ = some (.int .u64 i) := fun o => (New.al (New.refl wr) o).cell_ (hb.cell 0)
            have i1 : ∀ o : Obj, (wr.alloc o).cell? ⟨w.heap.size, 1, none⟩ = some (.int .u64 q) := fun o => (New.al (New.refl wr) o).cell_ (hb.cell 1)
            have i2 : ∀ o : Obj, (wr.alloc o).cell? ⟨w.heap.size, 2, none⟩ = some (.slice A n c) := fun o => (New.al (New.refl wr) o).cell_ (hb.cell 2)
            have i3 : ∀ o : Obj, (wr.alloc o).cell? ⟨w.heap.size, 3, none⟩ = some (.slice B k d) := fun o => (New.al (New.refl wr) o).cell_ (hb.cell 3)
            have HN67 := fun o => Lib.hid (New.al HJ.out.1 o)
            clear ha hgl hb
            by_cases e1 : ia = i
            · by_cases e2 : qa = q
              · go_wp2_with fail
                go_ret
                exact ⟨rfl, HN06.out.tr (HN67 _).out⟩
              · go_wp2_with fail
                go_roundw
                case rel =>
                  refine ⟨(t : Int) - 1, by omega, by omega, by go_num, Lib.hid ⟨(HN67 _).out, fun j hj hjt => ?_⟩⟩
                  by_cases hjt' : j = t
                  · subst hjt'
                    simp [AB.kv, ← hae]
                    omega
                  · exact HJ.out.2 j hj (by omega)
                case measure => first | (simp [intOf]; done) | (simp [intOf]; omega)
            · go_wp2_with fail
              go_roundw
              case rel =>
                refine ⟨(t : Int) - 1, by omega, by omega, by go_num, Lib.hid ⟨(HN67 _).out, fun j hj hjt => ?_⟩⟩
                by_cases hjt' : j = t
                · subst hjt'
                  simp [AB.kv, ← hae]
                  omega
                · exact HJ.out.2 j hj (by omega)
              case measure => first | (simp [intOf]; done) | (simp [intOf]; omega)
      · as_aux_lemma =>
        obtain ⟨FA, Fn, Fc, Frp, rfl, HO6, HLast⟩ : ∃ FA Fn Fc Frp, e = .returned (.tuple #[.slice FA Fn Fc, .bool true]) ∧ Hid (RdB w6 FA Fn Frp) ∧ Hid (LastOf (L.map AB.kv) i q rq Frp) := by
          obtain ⟨A', n', c', s, r, h1, h2, h3, h4, h5, h6, h7⟩ := hres
          refine ⟨A', n', c', r.rep, h1, Lib.hid h2, Lib.hid ?_⟩
          have := HH.out s h3 r h4
          rwa [h5, h6, h7] at this
        have HN06 : Hid (New w w6) := Lib.hid (HNw.out.tr hN6)
        have HB6 := Lib.hid (New.blk hN6 hb)
        clear hN6 hb i0 i1 i2 i3
        go_wp2_with fail
        go_loopw [12] (fun p wr => ∃ (z : Int), -1 ≤ z ∧ z < n1 ∧ p = .int .i64 z ∧ Hid (LJ w6 (L.map AB.kv) i q z wr)) (fun p _ => (intOf p + 1).toNat)
        case atStart => exact ⟨(n1 : Int) - 1, by omega, by omega, by go_num, Lib.hid ⟨New.refl _, fun j hj hz => by simp [HL.out] at hj; omega⟩⟩
        case round =>
          obtain ⟨z, hz1, hz2, rfl, HJ⟩ := hrel
          by_cases hz : z < 0
          · have hz0 : z = -1 := by omega
            subst hz0
            exact absurd (last_no HLast.out (fun j hj => HJ.out.2 j hj (by omega))) id
          · obtain ⟨t, rfl⟩ := Int.eq_ofNat_of_zero_le (by omega : 0 ≤ z)
            have htn : t < n1 := by omega
            obtain ⟨gA, oA, hl, rfl, -, hgl, c0, c1', c2, c3, c4⟩ := rd_av ((HN06.out.tr HJ.out.1).rd HR.out) (by simp [HL.out]) htn
            have hl' : t < L.length := by simpa using hl
            simp only [List.getElem_map] at c0 c1' c2 c3 c4
            have ha := HG.out L[t] (List.getElem_mem _)
            obtain ⟨a, hae⟩ : ∃ a, a = L[t] := ⟨_, rfl⟩
            rw [← hae] at c0 c1' c2 c3 c4 ha
            obtain ⟨⟨ia, qa, Aa, na, ca, Ba, ka, da, dra⟩, rqa, rpa⟩ := a
            dsimp only at c0 c1' c2 c3 c4
            have HA := Lib.hid ha
            have hb := New.blk HJ.out.1 HB6.out
            have i0 : ∀ o : Obj, (wr.alloc o).cell? ⟨w.heap.size, 0, none⟩ = some (.int .u64 i) := fun o => (New.al (New.refl wr) o).cell_ (hb.cell 0)
            have i1 : ∀ o : Obj, (wr.alloc o).cell? ⟨w.heap.size, 1, none⟩ = some (.int .u64 q) := fun o => (New.al (New.refl wr) o).cell_ (hb.cell 1)
            have i2 : ∀ o : Obj, (wr.alloc o).cell? ⟨w.heap.size, 2, none⟩ = some (.slice A n c) := fun o => (New.al (New.refl wr) o).cell_ (hb.cell 2)
            have i3 : ∀ o : Obj, (wr.alloc o).cell? ⟨w.heap.size, 3, none⟩ = some (.slice B k d) := fun o => (New.al (New.refl wr) o).cell_ (hb.cell 3)
            have HN67 := fun o => Lib.hid (New.al HJ.out.1 o)
            clear ha hgl hb
            by_cases e1 : ia = i
            · by_cases e2 : qa = q
              · obtain ⟨x1, x2⟩ := last_at HLast.out (t := t) (by simpa using hl') (by simp [AB.kv, ← hae]; exact ⟨e1, e2⟩) (fun j hj hjt => HJ.out.2 j hj (by omega))
                simp [AB.kv, ← hae] at x1 x2
                go_wp2_with fail
                obtain ⟨w7, hw7⟩ : ∃ w7 : World, w7 = wr.alloc (.cells #[.int .u64 i, .int .u64 q, .slice Aa na ca, .slice Ba ka da, .bool dra] 26) := ⟨_, rfl⟩
                have HN67' : Hid (New w6 w7) := Lib.hid (by rw [hw7]; exact (HN67 _).out)
                have hb4 : Blk w7 wr.heap.size 26 #[.int .u64 i, .int .u64 q, .slice Aa na ca, .slice Ba ka da, .bool dra] := by rw [hw7]; exact Blk.new _ _ _
                have k3 := hb4.cell 3
                try rw [← hw7]
                clear hw7 hb4 c0 c1' c2 c3 c4 i0 i1 i2 i3
                have HNw7 : Hid (New w w7) := Lib.hid (HN06.out.tr HN67'.out)
                have hb1 := bytes_any Aa A na n ca c rqa rq w7 (HNw7.out.rd HA.out.rdq) (HNw7.out.rd HX.out.rdq) HA.out.bq HX.out.bq
                rw [show decide (rqa = rq) = true from decide_eq_true x1] at hb1
                have hb2 := bytes_any Ba FA ka Fn da Fc rpa Frp w7 (HNw7.out.rd HA.out.rdp) (HO6.out.fr (HN67'.out.toFr NoB) (fun _ x => x.elim)).1 HA.out.bp HO6.out.2
                rw [show decide (rpa = Frp) = true from decide_eq_true x2] at hb2
                have HB1 := Lib.hid hb1
                have HB2 := Lib.hid hb2
                clear hb1 hb2 x1 x2
                refine HB1.out.mono ?_
                rintro e w8 ⟨rfl, rfl⟩
                go_wp2_with fail
                refine HB2.out.mono ?_
                rintro e w8 ⟨rfl, rfl⟩
                go_wp2_with fail
                go_ret
                exact ⟨rfl, HNw7.out⟩
              · go_wp2_with fail
                go_roundw
                case rel =>
                  refine ⟨(t : Int) - 1, by omega, by omega, by go_num, Lib.hid ⟨(HN67 _).out, fun j hj hjt => ?_⟩⟩
                  by_cases hjt' : j = t
                  · subst hjt'
                    simp [AB.kv, ← hae]
                    omega
                  · exact HJ.out.2 j hj (by omega)
                case measure => first | (simp [intOf]; done) | (simp [intOf]; omega)
            · go_wp2_with fail
              go_roundw
              case rel =>
                refine ⟨(t : Int) - 1, by omega, by omega, by go_num, Lib.hid ⟨(HN67 _).out, fun j hj hjt => ?_⟩⟩
                by_cases hjt' : j = t
                · subst hjt'
                  simp [AB.kv, ← hae]
                  omega
                · exact HJ.out.2 j hj (by omega)
              case measure => first | (simp [intOf]; done) | (simp [intOf]; omega)
end Go.Proofs.Ytpomcnfifhfffaa
