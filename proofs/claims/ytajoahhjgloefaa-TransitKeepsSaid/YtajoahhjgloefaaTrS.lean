/- TransitKeeps' round, loop and walk. (mkkeepsb.py writes this text.) No condition. -/
import Derived.Test.YtajoahhjgloefaaTrR
import Derived.Deep.CutBlock
namespace Go.Proofs.Ytajoahhjgloefaa
open Go.RowKit Go.Maps

noncomputable def klp : Code := loopOf ((Try.f4.body.bind (findC isLoop)).getD .skip)
/-- What the loop holds. -/
def KL (w : World) (base g bl gb c0 : Nat) (C : Bool → Nat) (k : Nat) (Ds : List Nat) (wr : World) : Prop :=
  (∃ (X : Nat → Prop) (l1 l2 : Ln) (f : Bool → Lit → Option Value) (m : Bool → Nat) (lf : Bool → List Int → Int), KN wr base g bl gb c0 C k X l1 l2 f m lf) ∧ Marks w.heap.size Ds wr ∧ New w wr
set_option maxRecDepth 100000 in
def KW (x0 x1 x4 x7 x14 x15 x16 x17 x18 x19 x20 x21 x22 x23 x24 x25 x26 x27 x28 x131 : Value) (w : World) (base g bl gb c0 : Nat) (C : Bool → Nat) (A : Option Addr) (n c : Nat) (a : Act) (wr : World) : Prop :=
  ∃ (Ds : List Nat) (u2 u8 u9 u10 u11 u12 u13 u32 u33 u34 u35 u36 u37 u38 u39 u40 u41 u42 u43 u44 u45 u46 u47 u48 u49 u50 u51 u52 u53 u54 u55 u56 u57 u58 u59 u60 u61 u62 u63 u64 u65 u66 u67 u68 u69 u70 u71 u72 u73 u74 u75 u76 u77 u78 u79 u80 u81 u82 u83 u84 u85 u86 u87 u88 u89 u90 u91 u92 u93 u94 u95 u96 u97 u98 u99 u100 u101 u102 u103 u104 u105 u106 u107 u108 u109 u110 u111 u112 u113 u114 u115 u116 u117 u118 u119 u120 u121 u122 u123 u124 u125 u126 u127 u128 u129 u130 u132 u133 u134 u135 u136 u137 u138 u139 u140 u141 u142 u143 u144 u145 u146 u147 u148 u149 u150 u151 u152 u153 u154 u155 u156 u157 u158 u159 u160 u161 u162 u163 u164 u165 u166 u167 u168 u169 u170 u171 u172 u173 u174 u175 u176 u177 u178 u179 u180 u181 u182 u183 u184 u185 u186 : Value) (k : Nat), (k ≤ n ∧ KL w base g bl gb c0 C k Ds wr) ∧ a = ⟨#[x0, x1, u2, .pointer (some ⟨g, 0, none⟩), x4, .pointer (some ⟨bl, 0, none⟩), .pointer (some ⟨gb, 0, none⟩), x7, u8, u9, u10, u11, u12, u13, x14, x15, x16, x17, x18, x19, x20, x21, x22, x23, x24, x25, x26, x27, x28, .slice A n c, .int .i64 n, .int .i64 k, u32, u33, u34, u35, u36, u37, u38, u39, u40, u41, u42, u43, u44, u45, u46, u47, u48, u49, u50, u51, u52, u53, u54, u55, u56, u57, u58, u59, u60, u61, u62, u63, u64, u65, u66, u67, u68, u69, u70, u71, u72, u73, u74, u75, u76, u77, u78, u79, u80, u81, u82, u83, u84, u85, u86, u87, u88, u89, u90, u91, u92, u93, u94, u95, u96, u97, u98, u99, u100, u101, u102, u103, u104, u105, u106, u107, u108, u109, u110, u111, u112, u113, u114, u115, u116, u117, u118, u119, u120, u121, u122, u123, u124, u125, u126, u127, u128, u129, u130, x131, u132, u133, u134, u135, u136, u137, u138, u139, u140, u141, u142, u143, u144, u145, u146, u147, u148, u149, u150, u151, u152, u153, u154, u155, u156, u157, u158, u159, u160, u161, u162, u163, u164, u165, u166, u167, u168, u169, u170, u171, u172, u173, u174, u175, u176, u177, u178, u179, u180, u181, u182, u183, u184, u185, u186], Ds.map mk1⟩
def Kmu (n : Nat) (a : Act) (_ : World) : Nat := n - (intOf (a.tmps.getD 31 undef)).toNat
theorem KX.new {W w' w2 : World} {base g bl gb c0 : Nat} {C : Bool → Nat} {k : Nat} {l1 l2 : Ln} {B : Nat} {Ds : List Nat} (h : KX W base g bl gb c0 C k l1 l2 B Ds w') (hN : New w' w2) : KX W base g bl gb c0 C k l1 l2 B Ds w2 := by
  obtain ⟨⟨X', l1', l2', f', m', lf', h1⟩, h2, h3⟩ := h
  exact ⟨⟨X', l1', l2', f', m', lf', h1.keep (hN.toFr NoB) (fun _ x => x.elim)⟩, h2.trans (hN.toFr _), h3.new hN⟩
theorem KL.next {W w' : World} {w : World} {base g bl gb c0 : Nat} {C : Bool → Nat} {k : Nat} {X : Nat → Prop} {l1 l2 : Ln} {f : Bool → Lit → Option Value} {m : Bool → Nat} {lf : Bool → List Int → Int} {Ds : List Nat} (h : KN W base g bl gb c0 C k X l1 l2 f m lf) (hN : New w W) (hB : w.heap.size ≤ base) (hx : KX W base g bl gb c0 C k l1 l2 w.heap.size Ds w') :
    KL w base g bl gb c0 C (k + 1) Ds w' :=
  ⟨hx.1, hx.2.2, hN.fr hx.2.1 (by
    have hlb := h.lb
    rintro j (hj | rfl | ⟨i, rfl⟩)
    · have := (h.nt.ours hj).1; omega
    · omega
    · have := hlb.2.2 i; omega)⟩
set_option maxHeartbeats 16000000 in
set_option maxRecDepth 100000 in
theorem k_round {x0 x1 x4 x7 x14 x15 x16 x17 x18 x19 x20 x21 x22 x23 x24 x25 x26 x27 x28 x131 : Value} {w : World} {base g bl gb c0 : Nat} {C : Bool → Nat} {A : Option Addr} {n c : Nat} (L : List Ac) (hL : L.length = n) (hR : Rd (fun b => b < w.heap.size) w 4 A n (L.flatMap Ac.cells)) (hg : ∀ a ∈ L, a.Good w) (h6 : n ≤ 600) (h2 : ∀ a ∈ L, a.x.n ≤ 200) (hB : w.heap.size ≤ base) {Q0 : Exit → Act → World → Prop}
    (hexit : ∀ (Ds : List Nat) (u2 u8 u9 u10 u11 u12 u13 u32 u33 u34 u35 u36 u37 u38 u39 u40 u41 u42 u43 u44 u45 u46 u47 u48 u49 u50 u51 u52 u53 u54 u55 u56 u57 u58 u59 u60 u61 u62 u63 u64 u65 u66 u67 u68 u69 u70 u71 u72 u73 u74 u75 u76 u77 u78 u79 u80 u81 u82 u83 u84 u85 u86 u87 u88 u89 u90 u91 u92 u93 u94 u95 u96 u97 u98 u99 u100 u101 u102 u103 u104 u105 u106 u107 u108 u109 u110 u111 u112 u113 u114 u115 u116 u117 u118 u119 u120 u121 u122 u123 u124 u125 u126 u127 u128 u129 u130 u132 u133 u134 u135 u136 u137 u138 u139 u140 u141 u142 u143 u144 u145 u146 u147 u148 u149 u150 u151 u152 u153 u154 u155 u156 u157 u158 u159 u160 u161 u162 u163 u164 u165 u166 u167 u168 u169 u170 u171 u172 u173 u174 u175 u176 u177 u178 u179 u180 u181 u182 u183 u184 u185 u186 : Value) (wr : World), KL w base g bl gb c0 C n Ds wr → Q0 (.exit 0) ⟨#[x0, x1, u2, .pointer (some ⟨g, 0, none⟩), x4, .pointer (some ⟨bl, 0, none⟩), .pointer (some ⟨gb, 0, none⟩), x7, u8, u9, u10, u11, u12, u13, x14, x15, x16, x17, x18, x19, x20, x21, x22, x23, x24, x25, x26, x27, x28, .slice A n c, .int .i64 n, .int .i64 n, u32, u33, u34, u35, u36, u37, u38, u39, u40, u41, u42, u43, u44, u45, u46, u47, u48, u49, u50, u51, u52, u53, u54, u55, u56, u57, u58, u59, u60, u61, u62, u63, u64, u65, u66, u67, u68, u69, u70, u71, u72, u73, u74, u75, u76, u77, u78, u79, u80, u81, u82, u83, u84, u85, u86, u87, u88, u89, u90, u91, u92, u93, u94, u95, u96, u97, u98, u99, u100, u101, u102, u103, u104, u105, u106, u107, u108, u109, u110, u111, u112, u113, u114, u115, u116, u117, u118, u119, u120, u121, u122, u123, u124, u125, u126, u127, u128, u129, u130, x131, u132, u133, u134, u135, u136, u137, u138, u139, u140, u141, u142, u143, u144, u145, u146, u147, u148, u149, u150, u151, u152, u153, u154, u155, u156, u157, u158, u159, u160, u161, u162, u163, u164, u165, u166, u167, u168, u169, u170, u171, u172, u173, u174, u175, u176, u177, u178, u179, u180, u181, u182, u183, u184, u185, u186], Ds.map mk1⟩ wr)
    (a : Act) (wr : World) (hI : KW x0 x1 x4 x7 x14 x15 x16 x17 x18 x19 x20 x21 x22 x23 x24 x25 x26 x27 x28 x131 w base g bl gb c0 C A n c a wr) : klp.wp Try.prog (Exit.then (fun a' w' => KW x0 x1 x4 x7 x14 x15 x16 x17 x18 x19 x20 x21 x22 x23 x24 x25 x26 x27 x28 x131 w base g bl gb c0 C A n c a' w' ∧ Kmu n a' w' < Kmu n a wr) Q0) a wr := by
  have HE := Lib.hid hexit
  have HR := Lib.hid hR
  have HL := Lib.hid hL
  have HG := Lib.hid hg
  have H2 := Lib.hid h2
  clear hexit hR hL hg h2
  unfold KW at hI
  obtain ⟨Ds, hI⟩ := hI
  obtain ⟨u2, hI⟩ := hI
  obtain ⟨u8, hI⟩ := hI
  obtain ⟨u9, hI⟩ := hI
  obtain ⟨u10, hI⟩ := hI
  obtain ⟨u11, hI⟩ := hI
  obtain ⟨u12, hI⟩ := hI
  obtain ⟨u13, hI⟩ := hI
  obtain ⟨u32, hI⟩ := hI
  obtain ⟨u33, hI⟩ := hI
  obtain ⟨u34, hI⟩ := hI
  obtain ⟨u35, hI⟩ := hI
  obtain ⟨u36, hI⟩ := hI
  obtain ⟨u37, hI⟩ := hI
  obtain ⟨u38, hI⟩ := hI
  obtain ⟨u39, hI⟩ := hI
  obtain ⟨u40, hI⟩ := hI
  obtain ⟨u41, hI⟩ := hI
  obtain ⟨u42, hI⟩ := hI
  obtain ⟨u43, hI⟩ := hI
  obtain ⟨u44, hI⟩ := hI
  obtain ⟨u45, hI⟩ := hI
  obtain ⟨u46, hI⟩ := hI
  obtain ⟨u47, hI⟩ := hI
  obtain ⟨u48, hI⟩ := hI
  obtain ⟨u49, hI⟩ := hI
  obtain ⟨u50, hI⟩ := hI
  obtain ⟨u51, hI⟩ := hI
  obtain ⟨u52, hI⟩ := hI
  obtain ⟨u53, hI⟩ := hI
  obtain ⟨u54, hI⟩ := hI
  obtain ⟨u55, hI⟩ := hI
  obtain ⟨u56, hI⟩ := hI
  obtain ⟨u57, hI⟩ := hI
  obtain ⟨u58, hI⟩ := hI
  obtain ⟨u59, hI⟩ := hI
  obtain ⟨u60, hI⟩ := hI
  obtain ⟨u61, hI⟩ := hI
  obtain ⟨u62, hI⟩ := hI
  obtain ⟨u63, hI⟩ := hI
  obtain ⟨u64, hI⟩ := hI
  obtain ⟨u65, hI⟩ := hI
  obtain ⟨u66, hI⟩ := hI
  obtain ⟨u67, hI⟩ := hI
  obtain ⟨u68, hI⟩ := hI
  obtain ⟨u69, hI⟩ := hI
  obtain ⟨u70, hI⟩ := hI
  obtain ⟨u71, hI⟩ := hI
  obtain ⟨u72, hI⟩ := hI
  obtain ⟨u73, hI⟩ := hI
  obtain ⟨u74, hI⟩ := hI
  obtain ⟨u75, hI⟩ := hI
  obtain ⟨u76, hI⟩ := hI
  obtain ⟨u77, hI⟩ := hI
  obtain ⟨u78, hI⟩ := hI
  obtain ⟨u79, hI⟩ := hI
  obtain ⟨u80, hI⟩ := hI
  obtain ⟨u81, hI⟩ := hI
  obtain ⟨u82, hI⟩ := hI
  obtain ⟨u83, hI⟩ := hI
  obtain ⟨u84, hI⟩ := hI
  obtain ⟨u85, hI⟩ := hI
  obtain ⟨u86, hI⟩ := hI
  obtain ⟨u87, hI⟩ := hI
  obtain ⟨u88, hI⟩ := hI
  obtain ⟨u89, hI⟩ := hI
  obtain ⟨u90, hI⟩ := hI
  obtain ⟨u91, hI⟩ := hI
  obtain ⟨u92, hI⟩ := hI
  obtain ⟨u93, hI⟩ := hI
  obtain ⟨u94, hI⟩ := hI
  obtain ⟨u95, hI⟩ := hI
  obtain ⟨u96, hI⟩ := hI
  obtain ⟨u97, hI⟩ := hI
  obtain ⟨u98, hI⟩ := hI
  obtain ⟨u99, hI⟩ := hI
  obtain ⟨u100, hI⟩ := hI
  obtain ⟨u101, hI⟩ := hI
  obtain ⟨u102, hI⟩ := hI
  obtain ⟨u103, hI⟩ := hI
  obtain ⟨u104, hI⟩ := hI
  obtain ⟨u105, hI⟩ := hI
  obtain ⟨u106, hI⟩ := hI
  obtain ⟨u107, hI⟩ := hI
  obtain ⟨u108, hI⟩ := hI
  obtain ⟨u109, hI⟩ := hI
  obtain ⟨u110, hI⟩ := hI
  obtain ⟨u111, hI⟩ := hI
  obtain ⟨u112, hI⟩ := hI
  obtain ⟨u113, hI⟩ := hI
  obtain ⟨u114, hI⟩ := hI
  obtain ⟨u115, hI⟩ := hI
  obtain ⟨u116, hI⟩ := hI
  obtain ⟨u117, hI⟩ := hI
  obtain ⟨u118, hI⟩ := hI
  obtain ⟨u119, hI⟩ := hI
  obtain ⟨u120, hI⟩ := hI
  obtain ⟨u121, hI⟩ := hI
  obtain ⟨u122, hI⟩ := hI
  obtain ⟨u123, hI⟩ := hI
  obtain ⟨u124, hI⟩ := hI
  obtain ⟨u125, hI⟩ := hI
  obtain ⟨u126, hI⟩ := hI
  obtain ⟨u127, hI⟩ := hI
  obtain ⟨u128, hI⟩ := hI
  obtain ⟨u129, hI⟩ := hI
  obtain ⟨u130, hI⟩ := hI
  obtain ⟨u132, hI⟩ := hI
  obtain ⟨u133, hI⟩ := hI
  obtain ⟨u134, hI⟩ := hI
  obtain ⟨u135, hI⟩ := hI
  obtain ⟨u136, hI⟩ := hI
  obtain ⟨u137, hI⟩ := hI
  obtain ⟨u138, hI⟩ := hI
  obtain ⟨u139, hI⟩ := hI
  obtain ⟨u140, hI⟩ := hI
  obtain ⟨u141, hI⟩ := hI
  obtain ⟨u142, hI⟩ := hI
  obtain ⟨u143, hI⟩ := hI
  obtain ⟨u144, hI⟩ := hI
  obtain ⟨u145, hI⟩ := hI
  obtain ⟨u146, hI⟩ := hI
  obtain ⟨u147, hI⟩ := hI
  obtain ⟨u148, hI⟩ := hI
  obtain ⟨u149, hI⟩ := hI
  obtain ⟨u150, hI⟩ := hI
  obtain ⟨u151, hI⟩ := hI
  obtain ⟨u152, hI⟩ := hI
  obtain ⟨u153, hI⟩ := hI
  obtain ⟨u154, hI⟩ := hI
  obtain ⟨u155, hI⟩ := hI
  obtain ⟨u156, hI⟩ := hI
  obtain ⟨u157, hI⟩ := hI
  obtain ⟨u158, hI⟩ := hI
  obtain ⟨u159, hI⟩ := hI
  obtain ⟨u160, hI⟩ := hI
  obtain ⟨u161, hI⟩ := hI
  obtain ⟨u162, hI⟩ := hI
  obtain ⟨u163, hI⟩ := hI
  obtain ⟨u164, hI⟩ := hI
  obtain ⟨u165, hI⟩ := hI
  obtain ⟨u166, hI⟩ := hI
  obtain ⟨u167, hI⟩ := hI
  obtain ⟨u168, hI⟩ := hI
  obtain ⟨u169, hI⟩ := hI
  obtain ⟨u170, hI⟩ := hI
  obtain ⟨u171, hI⟩ := hI
  obtain ⟨u172, hI⟩ := hI
  obtain ⟨u173, hI⟩ := hI
  obtain ⟨u174, hI⟩ := hI
  obtain ⟨u175, hI⟩ := hI
  obtain ⟨u176, hI⟩ := hI
  obtain ⟨u177, hI⟩ := hI
  obtain ⟨u178, hI⟩ := hI
  obtain ⟨u179, hI⟩ := hI
  obtain ⟨u180, hI⟩ := hI
  obtain ⟨u181, hI⟩ := hI
  obtain ⟨u182, hI⟩ := hI
  obtain ⟨u183, hI⟩ := hI
  obtain ⟨u184, hI⟩ := hI
  obtain ⟨u185, hI⟩ := hI
  obtain ⟨u186, hI⟩ := hI
  obtain ⟨k, ⟨hk, ⟨X, l1, l2, f, m, lf, hFN⟩, hM, hN⟩, rfl⟩ := hI
  have HF := Lib.hid hFN
  have HM := Lib.hid hM
  have HN : Hid (New w wr) := Lib.hid hN
  clear hFN hM hN
  conv => arg 2; whnf
  by_cases hlt : k < n
  · obtain ⟨gA, oA, hl, rfl, -, -, hrg⟩ := rd_row (f := Ac.cells) (L := L) (fun _ => rfl) (by omega) (HN.out.rd HR.out) hlt
    have c0 : wr.cell? ⟨gA, oA + k * 4, none⟩ = some (.int .i64 L[k].kd) := hrg 0 _ rfl
    have c1 := hrg 1 _ rfl
    have c2 := hrg 2 _ rfl
    have c3 := hrg 3 _ rfl
    have hag := HG.out L[k] (List.getElem_mem _)
    have ha2 := H2.out L[k] (List.getElem_mem _)
    generalize L[k] = ac at c0 c1 c2 c3 hag ha2
    obtain ⟨kd, wy, pk, xf⟩ := ac
    obtain ⟨xA, xn, xc, xs⟩ := xf
    dsimp only at c0 c1 c2 c3 ha2
    have HAG := Lib.hid hag
    have HAQ : Hid (Rd (fun b => b < base) wr 1 xA xn (u8s xs)) := Lib.hid ((HN.out.rd hag.rd).imp fun j hj => Nat.lt_of_lt_of_le hj hB)
    have HA2 := Lib.hid ha2
    have hk0 : (0 : Int) ≤ (k : Int) := by omega
    have hkn : (k : Int) < (n : Int) := by omega
    clear hrg hl hag ha2
    by_cases hw1 : wy = 1
    · subst hw1
      obtain ⟨wb, hwb⟩ : ∃ wb : World, wb = wr.alloc (.cells #[.int .i64 kd, .int .i64 1, .int .u64 pk, .slice xA xn xc] 35) := ⟨_, rfl⟩
      obtain ⟨b8, hb8⟩ : ∃ b8, b8 = wr.heap.size := ⟨_, rfl⟩
      have HNb : Hid (New wr wb) := Lib.hid (by rw [hwb]; exact New.al (New.refl _) _)
      have HB8 : Hid (Blk wb b8 35 #[.int .i64 kd, .int .i64 1, .int .u64 pk, .slice xA xn xc]) := Lib.hid (by rw [hwb, hb8]; exact Blk.new _ _ _)
      go_upto_region 13 with fail
      rw [← hwb, ← hb8]
      have HZ := Lib.hid hb8
      clear hwb hb8
      have d0 : wb.cell? ⟨b8, 0, none⟩ = some (.int .i64 kd) := HB8.out.cell 0
      have d1 : wb.cell? ⟨b8, 1, none⟩ = some (.int .i64 1) := HB8.out.cell 1
      have HKB := Lib.hid (HF.out.keep (HNb.out.toFr NoB) (fun _ x => x.elim))
      have HLN := Lib.hid (len_in HKB.out.nt false)
      clear c0 c1 c2 c3
      go_upto_region 15 with fail
      refine HLN.out.mono ?_
      rintro e w2 ⟨rfl, rfl⟩
      clear HLN
      go_upto_block 2 with fail
      generalize (IntKind.u64.wrap kd).tmod 5 = q
      clear d0 d1
      obtain ⟨ln, hln⟩ : ∃ ln, ln = (sel false l1 l2).L.length := ⟨_, rfl⟩
      rw [← hln]
      have HLE := Lib.hid hln.symm
      clear hln
      have hlen : (sel false l1 l2).L.length = ln := HLE.out
      refine wp_sw (fun a' w' => ∃ (Ds' : List Nat) (u2 u9 u10 u11 u12 u13 u32 u33 u34 u35 u36 u37 u38 u39 u40 u41 u42 u43 u44 u45 u46 u47 u48 u49 u50 u51 u52 u53 u54 u55 u56 u57 u58 u59 u60 u61 u62 u63 u64 u65 u66 u67 u68 u69 u70 u71 u72 u73 u74 u75 u76 u77 u78 u79 u80 u81 u82 u83 u84 u85 u86 u87 u88 u89 u90 u91 u92 u93 u94 u95 u96 u97 u98 u99 u100 u101 u102 u103 u104 u105 u106 u107 u108 u109 u110 u111 u112 u113 u114 u115 u116 u117 u118 u119 u120 u121 u122 u123 u124 u125 u126 u127 u128 u129 u130 u132 u133 u134 u135 u136 u137 u138 u139 u140 u141 u142 u143 u144 u145 u146 u147 u148 u149 u150 u151 u152 u153 u154 u155 u156 u157 u158 u159 u160 u161 u162 u163 u164 u165 u166 u167 u168 u169 u170 u171 u172 u173 u174 u175 u176 u177 u178 u179 u180 u181 u182 u183 u184 u185 u186 : Value), KX wb base g bl gb c0 C k l1 l2 w.heap.size Ds' w' ∧ a' = ⟨#[x0, x1, u2, .pointer (some ⟨g, 0, none⟩), x4, .pointer (some ⟨bl, 0, none⟩), .pointer (some ⟨gb, 0, none⟩), x7, .pointer (some ⟨b8, 0, none⟩), u9, u10, u11, u12, u13, x14, x15, x16, x17, x18, x19, x20, x21, x22, x23, x24, x25, x26, x27, x28, .slice (some ⟨gA, oA, none⟩) n c, .int .i64 n, .int .i64 k, u32, u33, u34, u35, u36, u37, u38, u39, u40, u41, u42, u43, u44, u45, u46, u47, u48, u49, u50, u51, u52, u53, u54, u55, u56, u57, u58, u59, u60, u61, u62, u63, u64, u65, u66, u67, u68, u69, u70, u71, u72, u73, u74, u75, u76, u77, u78, u79, u80, u81, u82, u83, u84, u85, u86, u87, u88, u89, u90, u91, u92, u93, u94, u95, u96, u97, u98, u99, u100, u101, u102, u103, u104, u105, u106, u107, u108, u109, u110, u111, u112, u113, u114, u115, u116, u117, u118, u119, u120, u121, u122, u123, u124, u125, u126, u127, u128, u129, u130, x131, u132, u133, u134, u135, u136, u137, u138, u139, u140, u141, u142, u143, u144, u145, u146, u147, u148, u149, u150, u151, u152, u153, u154, u155, u156, u157, u158, u159, u160, u161, u162, u163, u164, u165, u166, u167, u168, u169, u170, u171, u172, u173, u174, u175, u176, u177, u178, u179, u180, u181, u182, u183, u184, u185, u186], Ds'.map mk1⟩) ?rest1 ?cases1
      case rest1 =>
        intro a' w' h
        obtain ⟨Ds', h⟩ := h
        obtain ⟨u2, h⟩ := h
        obtain ⟨u9, h⟩ := h
        obtain ⟨u10, h⟩ := h
        obtain ⟨u11, h⟩ := h
        obtain ⟨u12, h⟩ := h
        obtain ⟨u13, h⟩ := h
        obtain ⟨u32, h⟩ := h
        obtain ⟨u33, h⟩ := h
        obtain ⟨u34, h⟩ := h
        obtain ⟨u35, h⟩ := h
        obtain ⟨u36, h⟩ := h
        obtain ⟨u37, h⟩ := h
        obtain ⟨u38, h⟩ := h
        obtain ⟨u39, h⟩ := h
        obtain ⟨u40, h⟩ := h
        obtain ⟨u41, h⟩ := h
        obtain ⟨u42, h⟩ := h
        obtain ⟨u43, h⟩ := h
        obtain ⟨u44, h⟩ := h
        obtain ⟨u45, h⟩ := h
        obtain ⟨u46, h⟩ := h
        obtain ⟨u47, h⟩ := h
        obtain ⟨u48, h⟩ := h
        obtain ⟨u49, h⟩ := h
        obtain ⟨u50, h⟩ := h
        obtain ⟨u51, h⟩ := h
        obtain ⟨u52, h⟩ := h
        obtain ⟨u53, h⟩ := h
        obtain ⟨u54, h⟩ := h
        obtain ⟨u55, h⟩ := h
        obtain ⟨u56, h⟩ := h
        obtain ⟨u57, h⟩ := h
        obtain ⟨u58, h⟩ := h
        obtain ⟨u59, h⟩ := h
        obtain ⟨u60, h⟩ := h
        obtain ⟨u61, h⟩ := h
        obtain ⟨u62, h⟩ := h
        obtain ⟨u63, h⟩ := h
        obtain ⟨u64, h⟩ := h
        obtain ⟨u65, h⟩ := h
        obtain ⟨u66, h⟩ := h
        obtain ⟨u67, h⟩ := h
        obtain ⟨u68, h⟩ := h
        obtain ⟨u69, h⟩ := h
        obtain ⟨u70, h⟩ := h
        obtain ⟨u71, h⟩ := h
        obtain ⟨u72, h⟩ := h
        obtain ⟨u73, h⟩ := h
        obtain ⟨u74, h⟩ := h
        obtain ⟨u75, h⟩ := h
        obtain ⟨u76, h⟩ := h
        obtain ⟨u77, h⟩ := h
        obtain ⟨u78, h⟩ := h
        obtain ⟨u79, h⟩ := h
        obtain ⟨u80, h⟩ := h
        obtain ⟨u81, h⟩ := h
        obtain ⟨u82, h⟩ := h
        obtain ⟨u83, h⟩ := h
        obtain ⟨u84, h⟩ := h
        obtain ⟨u85, h⟩ := h
        obtain ⟨u86, h⟩ := h
        obtain ⟨u87, h⟩ := h
        obtain ⟨u88, h⟩ := h
        obtain ⟨u89, h⟩ := h
        obtain ⟨u90, h⟩ := h
        obtain ⟨u91, h⟩ := h
        obtain ⟨u92, h⟩ := h
        obtain ⟨u93, h⟩ := h
        obtain ⟨u94, h⟩ := h
        obtain ⟨u95, h⟩ := h
        obtain ⟨u96, h⟩ := h
        obtain ⟨u97, h⟩ := h
        obtain ⟨u98, h⟩ := h
        obtain ⟨u99, h⟩ := h
        obtain ⟨u100, h⟩ := h
        obtain ⟨u101, h⟩ := h
        obtain ⟨u102, h⟩ := h
        obtain ⟨u103, h⟩ := h
        obtain ⟨u104, h⟩ := h
        obtain ⟨u105, h⟩ := h
        obtain ⟨u106, h⟩ := h
        obtain ⟨u107, h⟩ := h
        obtain ⟨u108, h⟩ := h
        obtain ⟨u109, h⟩ := h
        obtain ⟨u110, h⟩ := h
        obtain ⟨u111, h⟩ := h
        obtain ⟨u112, h⟩ := h
        obtain ⟨u113, h⟩ := h
        obtain ⟨u114, h⟩ := h
        obtain ⟨u115, h⟩ := h
        obtain ⟨u116, h⟩ := h
        obtain ⟨u117, h⟩ := h
        obtain ⟨u118, h⟩ := h
        obtain ⟨u119, h⟩ := h
        obtain ⟨u120, h⟩ := h
        obtain ⟨u121, h⟩ := h
        obtain ⟨u122, h⟩ := h
        obtain ⟨u123, h⟩ := h
        obtain ⟨u124, h⟩ := h
        obtain ⟨u125, h⟩ := h
        obtain ⟨u126, h⟩ := h
        obtain ⟨u127, h⟩ := h
        obtain ⟨u128, h⟩ := h
        obtain ⟨u129, h⟩ := h
        obtain ⟨u130, h⟩ := h
        obtain ⟨u132, h⟩ := h
        obtain ⟨u133, h⟩ := h
        obtain ⟨u134, h⟩ := h
        obtain ⟨u135, h⟩ := h
        obtain ⟨u136, h⟩ := h
        obtain ⟨u137, h⟩ := h
        obtain ⟨u138, h⟩ := h
        obtain ⟨u139, h⟩ := h
        obtain ⟨u140, h⟩ := h
        obtain ⟨u141, h⟩ := h
        obtain ⟨u142, h⟩ := h
        obtain ⟨u143, h⟩ := h
        obtain ⟨u144, h⟩ := h
        obtain ⟨u145, h⟩ := h
        obtain ⟨u146, h⟩ := h
        obtain ⟨u147, h⟩ := h
        obtain ⟨u148, h⟩ := h
        obtain ⟨u149, h⟩ := h
        obtain ⟨u150, h⟩ := h
        obtain ⟨u151, h⟩ := h
        obtain ⟨u152, h⟩ := h
        obtain ⟨u153, h⟩ := h
        obtain ⟨u154, h⟩ := h
        obtain ⟨u155, h⟩ := h
        obtain ⟨u156, h⟩ := h
        obtain ⟨u157, h⟩ := h
        obtain ⟨u158, h⟩ := h
        obtain ⟨u159, h⟩ := h
        obtain ⟨u160, h⟩ := h
        obtain ⟨u161, h⟩ := h
        obtain ⟨u162, h⟩ := h
        obtain ⟨u163, h⟩ := h
        obtain ⟨u164, h⟩ := h
        obtain ⟨u165, h⟩ := h
        obtain ⟨u166, h⟩ := h
        obtain ⟨u167, h⟩ := h
        obtain ⟨u168, h⟩ := h
        obtain ⟨u169, h⟩ := h
        obtain ⟨u170, h⟩ := h
        obtain ⟨u171, h⟩ := h
        obtain ⟨u172, h⟩ := h
        obtain ⟨u173, h⟩ := h
        obtain ⟨u174, h⟩ := h
        obtain ⟨u175, h⟩ := h
        obtain ⟨u176, h⟩ := h
        obtain ⟨u177, h⟩ := h
        obtain ⟨u178, h⟩ := h
        obtain ⟨u179, h⟩ := h
        obtain ⟨u180, h⟩ := h
        obtain ⟨u181, h⟩ := h
        obtain ⟨u182, h⟩ := h
        obtain ⟨u183, h⟩ := h
        obtain ⟨u184, h⟩ := h
        obtain ⟨u185, h⟩ := h
        obtain ⟨u186, h⟩ := h
        obtain ⟨hfx, rfl⟩ := h
        have HFX := Lib.hid hfx
        obtain ⟨⟨X', l1', l2', f', m', lf', hkn⟩, hfr, -⟩ := hfx
        have e1 : w'.cell? ⟨b8, 1, none⟩ = some (.int .i64 1) := (HB8.out.fr hfr (by
          have hz := HZ.out
          rintro (e | e | ⟨j, e⟩)
          · have := HF.out.old (.inl e); omega
          · have := HF.out.GB.lt; omega
          · have := (HF.out.M j).lt; omega)).cell 1
        have hl6 := (hkn.nt.at false).2.2.len
        have e2 : w'.cell? ⟨gb, 1, none⟩ = some (.int .i64 (-((sel false l1' l2').L.length : Int))) := by
          rw [hkn.GB.cell]
          rfl
        have hq := fun q => Calls.quiet_of_same ((len_in (hkn.nt.new (New.dn (New.refl w') q)) false).mono fun _ _ h => ⟨h.1, h.2.symm⟩)
        obtain ⟨r, hr⟩ : ∃ r, r = (sel false l1' l2').L.length := ⟨_, rfl⟩
        rw [← hr] at e2 hl6
        simp only [← hr] at hq
        have HQ := Lib.hid hq
        have hw1 : IntKind.i64.wrap (-(-(r : Int))) = r := by rw [Int.neg_neg]; exact IntWalk.i64_in _ (by omega)
        have hw2 : decide ((256 : Int) < r) = false := decide_eq_false (by omega)
        have hw3 : ((r : Int) != r) = false := by simp
        clear hkn hfr hq hr
        go_wp2_with fail
        go_quiet (exact HQ.out _)
        go_wp2_with fail
        unfold KW Kmu
        refine ⟨⟨Ds', _, _, _, _, _, _, _, _, _, _, _, _, _, _, _, _, _, _, _, _, _, _, _, _, _, _, _, _, _, _, _, _, _, _, _, _, _, _, _, _, _, _, _, _, _, _, _, _, _, _, _, _, _, _, _, _, _, _, _, _, _, _, _, _, _, _, _, _, _, _, _, _, _, _, _, _, _, _, _, _, _, _, _, _, _, _, _, _, _, _, _, _, _, _, _, _, _, _, _, _, _, _, _, _, _, _, _, _, _, _, _, _, _, _, _, _, _, _, _, _, _, _, _, _, _, _, _, _, _, _, _, _, _, _, _, _, _, _, _, _, _, _, _, _, _, _, _, _, _, _, _, _, _, _, _, _, _, _, _, _, _, k + 1, ⟨by omega, KL.next HKB.out (HN.out.tr HNb.out) hB (HFX.out.new (New.dn (New.refl _) _))⟩, rfl⟩, by simp [intOf]; omega⟩

      case cases1 =>
        intro K' hK
        have HSW : KwIn wb base g bl gb c0 C k X l1 l2 f m lf false 1 pk kd b8 ln wr.heap.size w.heap.size Ds ⟨xA, xn, xc, xs⟩ := by
          refine ⟨HKB.out, by omega, rfl, HAG.out.p0, HAG.out.p1, HB8.out, hlen, fun j hj => HF.out.old hj, ?_, ?_, HAG.out.by_, HA2.out, HM.out.new HNb.out, Nat.le_trans HN.out.size HNb.out.size⟩
          · rw [HZ.out]; exact Nat.le_refl _
          · exact HNb.out.rd HAQ.out
        have hyy : 0 < ln → ∃ y, (sel false l1 l2).L[pk.toNat % ln]? = some y := fun h0 => by
          have hlt : pk.toNat % ln < (sel false l1 l2).L.length := by rw [hlen]; exact Nat.mod_lt _ h0
          exact ⟨_, List.getElem?_eq_getElem hlt⟩
        by_cases hq2 : q = 2
        · subst hq2
          by_cases h0 : ln = 0
          · exact ks_take0 HSW h0 (fun Ds' _ _ _ _ _ _ _ _ _ _ _ _ _ _ _ _ _ _ _ _ _ _ _ _ _ _ _ _ _ _ _ _ _ _ _ _ _ _ _ _ _ _ _ _ _ _ _ _ _ _ _ _ _ _ _ _ _ _ _ _ _ _ _ _ _ _ _ _ _ _ _ _ _ _ _ _ _ _ _ _ _ _ _ _ _ _ _ _ _ _ _ _ _ _ _ _ _ _ _ _ _ _ _ _ _ _ _ _ _ _ _ _ _ _ _ _ _ _ _ _ _ _ w' hfx => hK _ _ ⟨Ds', _, _, _, _, _, _, _, _, _, _, _, _, _, _, _, _, _, _, _, _, _, _, _, _, _, _, _, _, _, _, _, _, _, _, _, _, _, _, _, _, _, _, _, _, _, _, _, _, _, _, _, _, _, _, _, _, _, _, _, _, _, _, _, _, _, _, _, _, _, _, _, _, _, _, _, _, _, _, _, _, _, _, _, _, _, _, _, _, _, _, _, _, _, _, _, _, _, _, _, _, _, _, _, _, _, _, _, _, _, _, _, _, _, _, _, _, _, _, _, _, _, _, _, _, _, _, _, _, _, _, _, _, _, _, _, _, _, _, _, _, _, _, _, _, _, _, _, _, _, _, _, _, _, _, _, _, _, _, _, _, hfx, rfl⟩)
          · exact ks_take1 HSW (by omega) (fun Ds' _ _ _ _ _ _ _ _ _ _ _ _ _ _ _ _ _ _ _ _ _ _ _ _ _ _ _ _ _ _ _ _ _ _ _ _ _ _ _ _ _ _ _ _ _ _ _ _ _ _ _ _ _ _ _ _ _ _ _ _ _ _ _ _ _ _ _ _ _ _ _ _ _ _ _ _ _ _ _ _ _ _ _ _ _ _ _ _ _ _ _ _ _ _ _ _ _ _ _ _ _ _ _ _ _ _ _ _ _ _ _ _ _ _ _ _ _ _ _ _ _ _ w' hfx => hK _ _ ⟨Ds', _, _, _, _, _, _, _, _, _, _, _, _, _, _, _, _, _, _, _, _, _, _, _, _, _, _, _, _, _, _, _, _, _, _, _, _, _, _, _, _, _, _, _, _, _, _, _, _, _, _, _, _, _, _, _, _, _, _, _, _, _, _, _, _, _, _, _, _, _, _, _, _, _, _, _, _, _, _, _, _, _, _, _, _, _, _, _, _, _, _, _, _, _, _, _, _, _, _, _, _, _, _, _, _, _, _, _, _, _, _, _, _, _, _, _, _, _, _, _, _, _, _, _, _, _, _, _, _, _, _, _, _, _, _, _, _, _, _, _, _, _, _, _, _, _, _, _, _, _, _, _, _, _, _, _, _, _, _, _, _, hfx, rfl⟩)
        by_cases hq3 : q = 3
        · subst hq3
          by_cases h0 : ln = 0
          · exact ks_lose0 HSW h0 (fun Ds' _ _ _ _ _ _ _ _ _ _ _ _ _ _ _ _ _ _ _ _ _ _ _ _ _ _ _ _ _ _ _ _ _ _ _ _ _ _ _ _ _ _ _ _ _ _ _ _ _ _ _ _ _ _ _ _ _ _ _ _ _ _ _ _ _ _ _ _ _ _ _ _ _ _ _ _ _ _ _ _ _ _ _ _ _ _ _ _ _ _ _ _ _ _ _ _ _ _ _ _ _ _ _ _ _ _ _ _ _ _ _ _ _ _ _ _ _ _ _ _ _ _ w' hfx => hK _ _ ⟨Ds', _, _, _, _, _, _, _, _, _, _, _, _, _, _, _, _, _, _, _, _, _, _, _, _, _, _, _, _, _, _, _, _, _, _, _, _, _, _, _, _, _, _, _, _, _, _, _, _, _, _, _, _, _, _, _, _, _, _, _, _, _, _, _, _, _, _, _, _, _, _, _, _, _, _, _, _, _, _, _, _, _, _, _, _, _, _, _, _, _, _, _, _, _, _, _, _, _, _, _, _, _, _, _, _, _, _, _, _, _, _, _, _, _, _, _, _, _, _, _, _, _, _, _, _, _, _, _, _, _, _, _, _, _, _, _, _, _, _, _, _, _, _, _, _, _, _, _, _, _, _, _, _, _, _, _, _, _, _, _, _, hfx, rfl⟩)
          · obtain ⟨y, hy⟩ := hyy (by omega)
            by_cases hsp : (sel false l1 l2).lost y.xs < 3 - 1
            · exact ks_lose1 HSW (by omega) y hy hsp (fun Ds' _ _ _ _ _ _ _ _ _ _ _ _ _ _ _ _ _ _ _ _ _ _ _ _ _ _ _ _ _ _ _ _ _ _ _ _ _ _ _ _ _ _ _ _ _ _ _ _ _ _ _ _ _ _ _ _ _ _ _ _ _ _ _ _ _ _ _ _ _ _ _ _ _ _ _ _ _ _ _ _ _ _ _ _ _ _ _ _ _ _ _ _ _ _ _ _ _ _ _ _ _ _ _ _ _ _ _ _ _ _ _ _ _ _ _ _ _ _ _ _ _ _ w' hfx => hK _ _ ⟨Ds', _, _, _, _, _, _, _, _, _, _, _, _, _, _, _, _, _, _, _, _, _, _, _, _, _, _, _, _, _, _, _, _, _, _, _, _, _, _, _, _, _, _, _, _, _, _, _, _, _, _, _, _, _, _, _, _, _, _, _, _, _, _, _, _, _, _, _, _, _, _, _, _, _, _, _, _, _, _, _, _, _, _, _, _, _, _, _, _, _, _, _, _, _, _, _, _, _, _, _, _, _, _, _, _, _, _, _, _, _, _, _, _, _, _, _, _, _, _, _, _, _, _, _, _, _, _, _, _, _, _, _, _, _, _, _, _, _, _, _, _, _, _, _, _, _, _, _, _, _, _, _, _, _, _, _, _, _, _, _, _, hfx, rfl⟩)
            · exact ks_lose2 HSW y hy (by omega) (fun Ds' _ _ _ _ _ _ _ _ _ _ _ _ _ _ _ _ _ _ _ _ _ _ _ _ _ _ _ _ _ _ _ _ _ _ _ _ _ _ _ _ _ _ _ _ _ _ _ _ _ _ _ _ _ _ _ _ _ _ _ _ _ _ _ _ _ _ _ _ _ _ _ _ _ _ _ _ _ _ _ _ _ _ _ _ _ _ _ _ _ _ _ _ _ _ _ _ _ _ _ _ _ _ _ _ _ _ _ _ _ _ _ _ _ _ _ _ _ _ _ _ _ _ w' hfx => hK _ _ ⟨Ds', _, _, _, _, _, _, _, _, _, _, _, _, _, _, _, _, _, _, _, _, _, _, _, _, _, _, _, _, _, _, _, _, _, _, _, _, _, _, _, _, _, _, _, _, _, _, _, _, _, _, _, _, _, _, _, _, _, _, _, _, _, _, _, _, _, _, _, _, _, _, _, _, _, _, _, _, _, _, _, _, _, _, _, _, _, _, _, _, _, _, _, _, _, _, _, _, _, _, _, _, _, _, _, _, _, _, _, _, _, _, _, _, _, _, _, _, _, _, _, _, _, _, _, _, _, _, _, _, _, _, _, _, _, _, _, _, _, _, _, _, _, _, _, _, _, _, _, _, _, _, _, _, _, _, _, _, _, _, _, _, hfx, rfl⟩)
        by_cases hq4 : q = 4
        · subst hq4
          exact ks_twice HSW (fun Ds' _ _ _ _ _ _ _ _ _ _ _ _ _ _ _ _ _ _ _ _ _ _ _ _ _ _ _ _ _ _ _ _ _ _ _ _ _ _ _ _ _ _ _ _ _ _ _ _ _ _ _ _ _ _ _ _ _ _ _ _ _ _ _ _ _ _ _ _ _ _ _ _ _ _ _ _ _ _ _ _ _ _ _ _ _ _ _ _ _ _ _ _ _ _ _ _ _ _ _ _ _ _ _ _ _ _ _ _ _ _ _ _ _ _ _ _ _ _ _ _ _ _ w' hfx => hK _ _ ⟨Ds', _, _, _, _, _, _, _, _, _, _, _, _, _, _, _, _, _, _, _, _, _, _, _, _, _, _, _, _, _, _, _, _, _, _, _, _, _, _, _, _, _, _, _, _, _, _, _, _, _, _, _, _, _, _, _, _, _, _, _, _, _, _, _, _, _, _, _, _, _, _, _, _, _, _, _, _, _, _, _, _, _, _, _, _, _, _, _, _, _, _, _, _, _, _, _, _, _, _, _, _, _, _, _, _, _, _, _, _, _, _, _, _, _, _, _, _, _, _, _, _, _, _, _, _, _, _, _, _, _, _, _, _, _, _, _, _, _, _, _, _, _, _, _, _, _, _, _, _, _, _, _, _, _, _, _, _, _, _, _, _, hfx, rfl⟩)
        exact ks_send HSW q (by simpa using hq2) (by simpa using hq3) (by simpa using hq4) (fun Ds' _ _ _ _ _ _ _ _ _ _ _ _ _ _ _ _ _ _ _ _ _ _ _ _ _ _ _ _ _ _ _ _ _ _ _ _ _ _ _ _ _ _ _ _ _ _ _ _ _ _ _ _ _ _ _ _ _ _ _ _ _ _ _ _ _ _ _ _ _ _ _ _ _ _ _ _ _ _ _ _ _ _ _ _ _ _ _ _ _ _ _ _ _ _ _ _ _ _ _ _ _ _ _ _ _ _ _ _ _ _ _ _ _ _ _ _ _ _ _ _ _ _ w' hfx => hK _ _ ⟨Ds', _, _, _, _, _, _, _, _, _, _, _, _, _, _, _, _, _, _, _, _, _, _, _, _, _, _, _, _, _, _, _, _, _, _, _, _, _, _, _, _, _, _, _, _, _, _, _, _, _, _, _, _, _, _, _, _, _, _, _, _, _, _, _, _, _, _, _, _, _, _, _, _, _, _, _, _, _, _, _, _, _, _, _, _, _, _, _, _, _, _, _, _, _, _, _, _, _, _, _, _, _, _, _, _, _, _, _, _, _, _, _, _, _, _, _, _, _, _, _, _, _, _, _, _, _, _, _, _, _, _, _, _, _, _, _, _, _, _, _, _, _, _, _, _, _, _, _, _, _, _, _, _, _, _, _, _, _, _, _, _, hfx, rfl⟩)
    · by_cases hw2 : wy = 2
      · subst hw2
        obtain ⟨wb, hwb⟩ : ∃ wb : World, wb = wr.alloc (.cells #[.int .i64 kd, .int .i64 2, .int .u64 pk, .slice xA xn xc] 35) := ⟨_, rfl⟩
        obtain ⟨b8, hb8⟩ : ∃ b8, b8 = wr.heap.size := ⟨_, rfl⟩
        have HNb : Hid (New wr wb) := Lib.hid (by rw [hwb]; exact New.al (New.refl _) _)
        have HB8 : Hid (Blk wb b8 35 #[.int .i64 kd, .int .i64 2, .int .u64 pk, .slice xA xn xc]) := Lib.hid (by rw [hwb, hb8]; exact Blk.new _ _ _)
        go_upto_region 13 with fail
        rw [← hwb, ← hb8]
        have HZ := Lib.hid hb8
        clear hwb hb8
        have d0 : wb.cell? ⟨b8, 0, none⟩ = some (.int .i64 kd) := HB8.out.cell 0
        have d1 : wb.cell? ⟨b8, 1, none⟩ = some (.int .i64 2) := HB8.out.cell 1
        have HKB := Lib.hid (HF.out.keep (HNb.out.toFr NoB) (fun _ x => x.elim))
        have HLN := Lib.hid (len_in HKB.out.nt true)
        clear c0 c1 c2 c3
        go_upto_region 15 with fail
        refine HLN.out.mono ?_
        rintro e w2 ⟨rfl, rfl⟩
        clear HLN
        go_upto_block 2 with fail
        generalize (IntKind.u64.wrap kd).tmod 5 = q
        clear d0 d1
        obtain ⟨ln, hln⟩ : ∃ ln, ln = (sel true l1 l2).L.length := ⟨_, rfl⟩
        rw [← hln]
        have HLE := Lib.hid hln.symm
        clear hln
        have hlen : (sel true l1 l2).L.length = ln := HLE.out
        refine wp_sw (fun a' w' => ∃ (Ds' : List Nat) (u2 u9 u10 u11 u12 u13 u32 u33 u34 u35 u36 u37 u38 u39 u40 u41 u42 u43 u44 u45 u46 u47 u48 u49 u50 u51 u52 u53 u54 u55 u56 u57 u58 u59 u60 u61 u62 u63 u64 u65 u66 u67 u68 u69 u70 u71 u72 u73 u74 u75 u76 u77 u78 u79 u80 u81 u82 u83 u84 u85 u86 u87 u88 u89 u90 u91 u92 u93 u94 u95 u96 u97 u98 u99 u100 u101 u102 u103 u104 u105 u106 u107 u108 u109 u110 u111 u112 u113 u114 u115 u116 u117 u118 u119 u120 u121 u122 u123 u124 u125 u126 u127 u128 u129 u130 u132 u133 u134 u135 u136 u137 u138 u139 u140 u141 u142 u143 u144 u145 u146 u147 u148 u149 u150 u151 u152 u153 u154 u155 u156 u157 u158 u159 u160 u161 u162 u163 u164 u165 u166 u167 u168 u169 u170 u171 u172 u173 u174 u175 u176 u177 u178 u179 u180 u181 u182 u183 u184 u185 u186 : Value), KX wb base g bl gb c0 C k l1 l2 w.heap.size Ds' w' ∧ a' = ⟨#[x0, x1, u2, .pointer (some ⟨g, 0, none⟩), x4, .pointer (some ⟨bl, 0, none⟩), .pointer (some ⟨gb, 0, none⟩), x7, .pointer (some ⟨b8, 0, none⟩), u9, u10, u11, u12, u13, x14, x15, x16, x17, x18, x19, x20, x21, x22, x23, x24, x25, x26, x27, x28, .slice (some ⟨gA, oA, none⟩) n c, .int .i64 n, .int .i64 k, u32, u33, u34, u35, u36, u37, u38, u39, u40, u41, u42, u43, u44, u45, u46, u47, u48, u49, u50, u51, u52, u53, u54, u55, u56, u57, u58, u59, u60, u61, u62, u63, u64, u65, u66, u67, u68, u69, u70, u71, u72, u73, u74, u75, u76, u77, u78, u79, u80, u81, u82, u83, u84, u85, u86, u87, u88, u89, u90, u91, u92, u93, u94, u95, u96, u97, u98, u99, u100, u101, u102, u103, u104, u105, u106, u107, u108, u109, u110, u111, u112, u113, u114, u115, u116, u117, u118, u119, u120, u121, u122, u123, u124, u125, u126, u127, u128, u129, u130, x131, u132, u133, u134, u135, u136, u137, u138, u139, u140, u141, u142, u143, u144, u145, u146, u147, u148, u149, u150, u151, u152, u153, u154, u155, u156, u157, u158, u159, u160, u161, u162, u163, u164, u165, u166, u167, u168, u169, u170, u171, u172, u173, u174, u175, u176, u177, u178, u179, u180, u181, u182, u183, u184, u185, u186], Ds'.map mk1⟩) ?rest2 ?cases2
        case rest2 =>
          intro a' w' h
          obtain ⟨Ds', h⟩ := h
          obtain ⟨u2, h⟩ := h
          obtain ⟨u9, h⟩ := h
          obtain ⟨u10, h⟩ := h
          obtain ⟨u11, h⟩ := h
          obtain ⟨u12, h⟩ := h
          obtain ⟨u13, h⟩ := h
          obtain ⟨u32, h⟩ := h
          obtain ⟨u33, h⟩ := h
          obtain ⟨u34, h⟩ := h
          obtain ⟨u35, h⟩ := h
          obtain ⟨u36, h⟩ := h
          obtain ⟨u37, h⟩ := h
          obtain ⟨u38, h⟩ := h
          obtain ⟨u39, h⟩ := h
          obtain ⟨u40, h⟩ := h
          obtain ⟨u41, h⟩ := h
          obtain ⟨u42, h⟩ := h
          obtain ⟨u43, h⟩ := h
          obtain ⟨u44, h⟩ := h
          obtain ⟨u45, h⟩ := h
          obtain ⟨u46, h⟩ := h
          obtain ⟨u47, h⟩ := h
          obtain ⟨u48, h⟩ := h
          obtain ⟨u49, h⟩ := h
          obtain ⟨u50, h⟩ := h
          obtain ⟨u51, h⟩ := h
          obtain ⟨u52, h⟩ := h
          obtain ⟨u53, h⟩ := h
          obtain ⟨u54, h⟩ := h
          obtain ⟨u55, h⟩ := h
          obtain ⟨u56, h⟩ := h
          obtain ⟨u57, h⟩ := h
          obtain ⟨u58, h⟩ := h
          obtain ⟨u59, h⟩ := h
          obtain ⟨u60, h⟩ := h
          obtain ⟨u61, h⟩ := h
          obtain ⟨u62, h⟩ := h
          obtain ⟨u63, h⟩ := h
          obtain ⟨u64, h⟩ := h
          obtain ⟨u65, h⟩ := h
          obtain ⟨u66, h⟩ := h
          obtain ⟨u67, h⟩ := h
          obtain ⟨u68, h⟩ := h
          obtain ⟨u69, h⟩ := h
          obtain ⟨u70, h⟩ := h
          obtain ⟨u71, h⟩ := h
          obtain ⟨u72, h⟩ := h
          obtain ⟨u73, h⟩ := h
          obtain ⟨u74, h⟩ := h
          obtain ⟨u75, h⟩ := h
          obtain ⟨u76, h⟩ := h
          obtain ⟨u77, h⟩ := h
          obtain ⟨u78, h⟩ := h
          obtain ⟨u79, h⟩ := h
          obtain ⟨u80, h⟩ := h
          obtain ⟨u81, h⟩ := h
          obtain ⟨u82, h⟩ := h
          obtain ⟨u83, h⟩ := h
          obtain ⟨u84, h⟩ := h
          obtain ⟨u85, h⟩ := h
          obtain ⟨u86, h⟩ := h
          obtain ⟨u87, h⟩ := h
          obtain ⟨u88, h⟩ := h
          obtain ⟨u89, h⟩ := h
          obtain ⟨u90, h⟩ := h
          obtain ⟨u91, h⟩ := h
          obtain ⟨u92, h⟩ := h
          obtain ⟨u93, h⟩ := h
          obtain ⟨u94, h⟩ := h
          obtain ⟨u95, h⟩ := h
          obtain ⟨u96, h⟩ := h
          obtain ⟨u97, h⟩ := h
          obtain ⟨u98, h⟩ := h
          obtain ⟨u99, h⟩ := h
          obtain ⟨u100, h⟩ := h
          obtain ⟨u101, h⟩ := h
          obtain ⟨u102, h⟩ := h
          obtain ⟨u103, h⟩ := h
          obtain ⟨u104, h⟩ := h
          obtain ⟨u105, h⟩ := h
          obtain ⟨u106, h⟩ := h
          obtain ⟨u107, h⟩ := h
          obtain ⟨u108, h⟩ := h
          obtain ⟨u109, h⟩ := h
          obtain ⟨u110, h⟩ := h
          obtain ⟨u111, h⟩ := h
          obtain ⟨u112, h⟩ := h
          obtain ⟨u113, h⟩ := h
          obtain ⟨u114, h⟩ := h
          obtain ⟨u115, h⟩ := h
          obtain ⟨u116, h⟩ := h
          obtain ⟨u117, h⟩ := h
          obtain ⟨u118, h⟩ := h
          obtain ⟨u119, h⟩ := h
          obtain ⟨u120, h⟩ := h
          obtain ⟨u121, h⟩ := h
          obtain ⟨u122, h⟩ := h
          obtain ⟨u123, h⟩ := h
          obtain ⟨u124, h⟩ := h
          obtain ⟨u125, h⟩ := h
          obtain ⟨u126, h⟩ := h
          obtain ⟨u127, h⟩ := h
          obtain ⟨u128, h⟩ := h
          obtain ⟨u129, h⟩ := h
          obtain ⟨u130, h⟩ := h
          obtain ⟨u132, h⟩ := h
          obtain ⟨u133, h⟩ := h
          obtain ⟨u134, h⟩ := h
          obtain ⟨u135, h⟩ := h
          obtain ⟨u136, h⟩ := h
          obtain ⟨u137, h⟩ := h
          obtain ⟨u138, h⟩ := h
          obtain ⟨u139, h⟩ := h
          obtain ⟨u140, h⟩ := h
          obtain ⟨u141, h⟩ := h
          obtain ⟨u142, h⟩ := h
          obtain ⟨u143, h⟩ := h
          obtain ⟨u144, h⟩ := h
          obtain ⟨u145, h⟩ := h
          obtain ⟨u146, h⟩ := h
          obtain ⟨u147, h⟩ := h
          obtain ⟨u148, h⟩ := h
          obtain ⟨u149, h⟩ := h
          obtain ⟨u150, h⟩ := h
          obtain ⟨u151, h⟩ := h
          obtain ⟨u152, h⟩ := h
          obtain ⟨u153, h⟩ := h
          obtain ⟨u154, h⟩ := h
          obtain ⟨u155, h⟩ := h
          obtain ⟨u156, h⟩ := h
          obtain ⟨u157, h⟩ := h
          obtain ⟨u158, h⟩ := h
          obtain ⟨u159, h⟩ := h
          obtain ⟨u160, h⟩ := h
          obtain ⟨u161, h⟩ := h
          obtain ⟨u162, h⟩ := h
          obtain ⟨u163, h⟩ := h
          obtain ⟨u164, h⟩ := h
          obtain ⟨u165, h⟩ := h
          obtain ⟨u166, h⟩ := h
          obtain ⟨u167, h⟩ := h
          obtain ⟨u168, h⟩ := h
          obtain ⟨u169, h⟩ := h
          obtain ⟨u170, h⟩ := h
          obtain ⟨u171, h⟩ := h
          obtain ⟨u172, h⟩ := h
          obtain ⟨u173, h⟩ := h
          obtain ⟨u174, h⟩ := h
          obtain ⟨u175, h⟩ := h
          obtain ⟨u176, h⟩ := h
          obtain ⟨u177, h⟩ := h
          obtain ⟨u178, h⟩ := h
          obtain ⟨u179, h⟩ := h
          obtain ⟨u180, h⟩ := h
          obtain ⟨u181, h⟩ := h
          obtain ⟨u182, h⟩ := h
          obtain ⟨u183, h⟩ := h
          obtain ⟨u184, h⟩ := h
          obtain ⟨u185, h⟩ := h
          obtain ⟨u186, h⟩ := h
          obtain ⟨hfx, rfl⟩ := h
          have HFX := Lib.hid hfx
          obtain ⟨⟨X', l1', l2', f', m', lf', hkn⟩, hfr, -⟩ := hfx
          have e1 : w'.cell? ⟨b8, 1, none⟩ = some (.int .i64 2) := (HB8.out.fr hfr (by
            have hz := HZ.out
            rintro (e | e | ⟨j, e⟩)
            · have := HF.out.old (.inl e); omega
            · have := HF.out.GB.lt; omega
            · have := (HF.out.M j).lt; omega)).cell 1
          have hl6 := (hkn.nt.at true).2.2.len
          have e2 : w'.cell? ⟨gb, 2, none⟩ = some (.int .i64 (-((sel true l1' l2').L.length : Int))) := by
            rw [hkn.GB.cell]
            rfl
          have hq := fun q => Calls.quiet_of_same ((len_in (hkn.nt.new (New.dn (New.refl w') q)) true).mono fun _ _ h => ⟨h.1, h.2.symm⟩)
          obtain ⟨r, hr⟩ : ∃ r, r = (sel true l1' l2').L.length := ⟨_, rfl⟩
          rw [← hr] at e2 hl6
          simp only [← hr] at hq
          have HQ := Lib.hid hq
          have hw1 : IntKind.i64.wrap (-(-(r : Int))) = r := by rw [Int.neg_neg]; exact IntWalk.i64_in _ (by omega)
          have hw2 : decide ((256 : Int) < r) = false := decide_eq_false (by omega)
          have hw3 : ((r : Int) != r) = false := by simp
          clear hkn hfr hq hr
          go_wp2_with fail
          go_quiet (exact HQ.out _)
          go_wp2_with fail
          unfold KW Kmu
          refine ⟨⟨Ds', _, _, _, _, _, _, _, _, _, _, _, _, _, _, _, _, _, _, _, _, _, _, _, _, _, _, _, _, _, _, _, _, _, _, _, _, _, _, _, _, _, _, _, _, _, _, _, _, _, _, _, _, _, _, _, _, _, _, _, _, _, _, _, _, _, _, _, _, _, _, _, _, _, _, _, _, _, _, _, _, _, _, _, _, _, _, _, _, _, _, _, _, _, _, _, _, _, _, _, _, _, _, _, _, _, _, _, _, _, _, _, _, _, _, _, _, _, _, _, _, _, _, _, _, _, _, _, _, _, _, _, _, _, _, _, _, _, _, _, _, _, _, _, _, _, _, _, _, _, _, _, _, _, _, _, _, _, _, _, _, _, k + 1, ⟨by omega, KL.next HKB.out (HN.out.tr HNb.out) hB (HFX.out.new (New.dn (New.refl _) _))⟩, rfl⟩, by simp [intOf]; omega⟩

        case cases2 =>
          intro K' hK
          have HSW : KwIn wb base g bl gb c0 C k X l1 l2 f m lf true 2 pk kd b8 ln wr.heap.size w.heap.size Ds ⟨xA, xn, xc, xs⟩ := by
            refine ⟨HKB.out, by omega, rfl, HAG.out.p0, HAG.out.p1, HB8.out, hlen, fun j hj => HF.out.old hj, ?_, ?_, HAG.out.by_, HA2.out, HM.out.new HNb.out, Nat.le_trans HN.out.size HNb.out.size⟩
            · rw [HZ.out]; exact Nat.le_refl _
            · exact HNb.out.rd HAQ.out
          have hyy : 0 < ln → ∃ y, (sel true l1 l2).L[pk.toNat % ln]? = some y := fun h0 => by
            have hlt : pk.toNat % ln < (sel true l1 l2).L.length := by rw [hlen]; exact Nat.mod_lt _ h0
            exact ⟨_, List.getElem?_eq_getElem hlt⟩
          by_cases hq2 : q = 2
          · subst hq2
            by_cases h0 : ln = 0
            · exact ks_take0 HSW h0 (fun Ds' _ _ _ _ _ _ _ _ _ _ _ _ _ _ _ _ _ _ _ _ _ _ _ _ _ _ _ _ _ _ _ _ _ _ _ _ _ _ _ _ _ _ _ _ _ _ _ _ _ _ _ _ _ _ _ _ _ _ _ _ _ _ _ _ _ _ _ _ _ _ _ _ _ _ _ _ _ _ _ _ _ _ _ _ _ _ _ _ _ _ _ _ _ _ _ _ _ _ _ _ _ _ _ _ _ _ _ _ _ _ _ _ _ _ _ _ _ _ _ _ _ _ w' hfx => hK _ _ ⟨Ds', _, _, _, _, _, _, _, _, _, _, _, _, _, _, _, _, _, _, _, _, _, _, _, _, _, _, _, _, _, _, _, _, _, _, _, _, _, _, _, _, _, _, _, _, _, _, _, _, _, _, _, _, _, _, _, _, _, _, _, _, _, _, _, _, _, _, _, _, _, _, _, _, _, _, _, _, _, _, _, _, _, _, _, _, _, _, _, _, _, _, _, _, _, _, _, _, _, _, _, _, _, _, _, _, _, _, _, _, _, _, _, _, _, _, _, _, _, _, _, _, _, _, _, _, _, _, _, _, _, _, _, _, _, _, _, _, _, _, _, _, _, _, _, _, _, _, _, _, _, _, _, _, _, _, _, _, _, _, _, _, hfx, rfl⟩)
            · exact ks_take1 HSW (by omega) (fun Ds' _ _ _ _ _ _ _ _ _ _ _ _ _ _ _ _ _ _ _ _ _ _ _ _ _ _ _ _ _ _ _ _ _ _ _ _ _ _ _ _ _ _ _ _ _ _ _ _ _ _ _ _ _ _ _ _ _ _ _ _ _ _ _ _ _ _ _ _ _ _ _ _ _ _ _ _ _ _ _ _ _ _ _ _ _ _ _ _ _ _ _ _ _ _ _ _ _ _ _ _ _ _ _ _ _ _ _ _ _ _ _ _ _ _ _ _ _ _ _ _ _ _ w' hfx => hK _ _ ⟨Ds', _, _, _, _, _, _, _, _, _, _, _, _, _, _, _, _, _, _, _, _, _, _, _, _, _, _, _, _, _, _, _, _, _, _, _, _, _, _, _, _, _, _, _, _, _, _, _, _, _, _, _, _, _, _, _, _, _, _, _, _, _, _, _, _, _, _, _, _, _, _, _, _, _, _, _, _, _, _, _, _, _, _, _, _, _, _, _, _, _, _, _, _, _, _, _, _, _, _, _, _, _, _, _, _, _, _, _, _, _, _, _, _, _, _, _, _, _, _, _, _, _, _, _, _, _, _, _, _, _, _, _, _, _, _, _, _, _, _, _, _, _, _, _, _, _, _, _, _, _, _, _, _, _, _, _, _, _, _, _, _, hfx, rfl⟩)
          by_cases hq3 : q = 3
          · subst hq3
            by_cases h0 : ln = 0
            · exact ks_lose0 HSW h0 (fun Ds' _ _ _ _ _ _ _ _ _ _ _ _ _ _ _ _ _ _ _ _ _ _ _ _ _ _ _ _ _ _ _ _ _ _ _ _ _ _ _ _ _ _ _ _ _ _ _ _ _ _ _ _ _ _ _ _ _ _ _ _ _ _ _ _ _ _ _ _ _ _ _ _ _ _ _ _ _ _ _ _ _ _ _ _ _ _ _ _ _ _ _ _ _ _ _ _ _ _ _ _ _ _ _ _ _ _ _ _ _ _ _ _ _ _ _ _ _ _ _ _ _ _ w' hfx => hK _ _ ⟨Ds', _, _, _, _, _, _, _, _, _, _, _, _, _, _, _, _, _, _, _, _, _, _, _, _, _, _, _, _, _, _, _, _, _, _, _, _, _, _, _, _, _, _, _, _, _, _, _, _, _, _, _, _, _, _, _, _, _, _, _, _, _, _, _, _, _, _, _, _, _, _, _, _, _, _, _, _, _, _, _, _, _, _, _, _, _, _, _, _, _, _, _, _, _, _, _, _, _, _, _, _, _, _, _, _, _, _, _, _, _, _, _, _, _, _, _, _, _, _, _, _, _, _, _, _, _, _, _, _, _, _, _, _, _, _, _, _, _, _, _, _, _, _, _, _, _, _, _, _, _, _, _, _, _, _, _, _, _, _, _, _, hfx, rfl⟩)
            · obtain ⟨y, hy⟩ := hyy (by omega)
              by_cases hsp : (sel true l1 l2).lost y.xs < 3 - 1
              · exact ks_lose1 HSW (by omega) y hy hsp (fun Ds' _ _ _ _ _ _ _ _ _ _ _ _ _ _ _ _ _ _ _ _ _ _ _ _ _ _ _ _ _ _ _ _ _ _ _ _ _ _ _ _ _ _ _ _ _ _ _ _ _ _ _ _ _ _ _ _ _ _ _ _ _ _ _ _ _ _ _ _ _ _ _ _ _ _ _ _ _ _ _ _ _ _ _ _ _ _ _ _ _ _ _ _ _ _ _ _ _ _ _ _ _ _ _ _ _ _ _ _ _ _ _ _ _ _ _ _ _ _ _ _ _ _ w' hfx => hK _ _ ⟨Ds', _, _, _, _, _, _, _, _, _, _, _, _, _, _, _, _, _, _, _, _, _, _, _, _, _, _, _, _, _, _, _, _, _, _, _, _, _, _, _, _, _, _, _, _, _, _, _, _, _, _, _, _, _, _, _, _, _, _, _, _, _, _, _, _, _, _, _, _, _, _, _, _, _, _, _, _, _, _, _, _, _, _, _, _, _, _, _, _, _, _, _, _, _, _, _, _, _, _, _, _, _, _, _, _, _, _, _, _, _, _, _, _, _, _, _, _, _, _, _, _, _, _, _, _, _, _, _, _, _, _, _, _, _, _, _, _, _, _, _, _, _, _, _, _, _, _, _, _, _, _, _, _, _, _, _, _, _, _, _, _, hfx, rfl⟩)
              · exact ks_lose2 HSW y hy (by omega) (fun Ds' _ _ _ _ _ _ _ _ _ _ _ _ _ _ _ _ _ _ _ _ _ _ _ _ _ _ _ _ _ _ _ _ _ _ _ _ _ _ _ _ _ _ _ _ _ _ _ _ _ _ _ _ _ _ _ _ _ _ _ _ _ _ _ _ _ _ _ _ _ _ _ _ _ _ _ _ _ _ _ _ _ _ _ _ _ _ _ _ _ _ _ _ _ _ _ _ _ _ _ _ _ _ _ _ _ _ _ _ _ _ _ _ _ _ _ _ _ _ _ _ _ _ w' hfx => hK _ _ ⟨Ds', _, _, _, _, _, _, _, _, _, _, _, _, _, _, _, _, _, _, _, _, _, _, _, _, _, _, _, _, _, _, _, _, _, _, _, _, _, _, _, _, _, _, _, _, _, _, _, _, _, _, _, _, _, _, _, _, _, _, _, _, _, _, _, _, _, _, _, _, _, _, _, _, _, _, _, _, _, _, _, _, _, _, _, _, _, _, _, _, _, _, _, _, _, _, _, _, _, _, _, _, _, _, _, _, _, _, _, _, _, _, _, _, _, _, _, _, _, _, _, _, _, _, _, _, _, _, _, _, _, _, _, _, _, _, _, _, _, _, _, _, _, _, _, _, _, _, _, _, _, _, _, _, _, _, _, _, _, _, _, _, hfx, rfl⟩)
          by_cases hq4 : q = 4
          · subst hq4
            exact ks_twice HSW (fun Ds' _ _ _ _ _ _ _ _ _ _ _ _ _ _ _ _ _ _ _ _ _ _ _ _ _ _ _ _ _ _ _ _ _ _ _ _ _ _ _ _ _ _ _ _ _ _ _ _ _ _ _ _ _ _ _ _ _ _ _ _ _ _ _ _ _ _ _ _ _ _ _ _ _ _ _ _ _ _ _ _ _ _ _ _ _ _ _ _ _ _ _ _ _ _ _ _ _ _ _ _ _ _ _ _ _ _ _ _ _ _ _ _ _ _ _ _ _ _ _ _ _ _ w' hfx => hK _ _ ⟨Ds', _, _, _, _, _, _, _, _, _, _, _, _, _, _, _, _, _, _, _, _, _, _, _, _, _, _, _, _, _, _, _, _, _, _, _, _, _, _, _, _, _, _, _, _, _, _, _, _, _, _, _, _, _, _, _, _, _, _, _, _, _, _, _, _, _, _, _, _, _, _, _, _, _, _, _, _, _, _, _, _, _, _, _, _, _, _, _, _, _, _, _, _, _, _, _, _, _, _, _, _, _, _, _, _, _, _, _, _, _, _, _, _, _, _, _, _, _, _, _, _, _, _, _, _, _, _, _, _, _, _, _, _, _, _, _, _, _, _, _, _, _, _, _, _, _, _, _, _, _, _, _, _, _, _, _, _, _, _, _, _, hfx, rfl⟩)
          exact ks_send HSW q (by simpa using hq2) (by simpa using hq3) (by simpa using hq4) (fun Ds' _ _ _ _ _ _ _ _ _ _ _ _ _ _ _ _ _ _ _ _ _ _ _ _ _ _ _ _ _ _ _ _ _ _ _ _ _ _ _ _ _ _ _ _ _ _ _ _ _ _ _ _ _ _ _ _ _ _ _ _ _ _ _ _ _ _ _ _ _ _ _ _ _ _ _ _ _ _ _ _ _ _ _ _ _ _ _ _ _ _ _ _ _ _ _ _ _ _ _ _ _ _ _ _ _ _ _ _ _ _ _ _ _ _ _ _ _ _ _ _ _ _ w' hfx => hK _ _ ⟨Ds', _, _, _, _, _, _, _, _, _, _, _, _, _, _, _, _, _, _, _, _, _, _, _, _, _, _, _, _, _, _, _, _, _, _, _, _, _, _, _, _, _, _, _, _, _, _, _, _, _, _, _, _, _, _, _, _, _, _, _, _, _, _, _, _, _, _, _, _, _, _, _, _, _, _, _, _, _, _, _, _, _, _, _, _, _, _, _, _, _, _, _, _, _, _, _, _, _, _, _, _, _, _, _, _, _, _, _, _, _, _, _, _, _, _, _, _, _, _, _, _, _, _, _, _, _, _, _, _, _, _, _, _, _, _, _, _, _, _, _, _, _, _, _, _, _, _, _, _, _, _, _, _, _, _, _, _, _, _, _, _, hfx, rfl⟩)
      · go_wp2_with fail
        unfold KW Kmu
        refine ⟨⟨Ds, _, _, _, _, _, _, _, _, _, _, _, _, _, _, _, _, _, _, _, _, _, _, _, _, _, _, _, _, _, _, _, _, _, _, _, _, _, _, _, _, _, _, _, _, _, _, _, _, _, _, _, _, _, _, _, _, _, _, _, _, _, _, _, _, _, _, _, _, _, _, _, _, _, _, _, _, _, _, _, _, _, _, _, _, _, _, _, _, _, _, _, _, _, _, _, _, _, _, _, _, _, _, _, _, _, _, _, _, _, _, _, _, _, _, _, _, _, _, _, _, _, _, _, _, _, _, _, _, _, _, _, _, _, _, _, _, _, _, _, _, _, _, _, _, _, _, _, _, _, _, _, _, _, _, _, _, _, _, _, _, _, k + 1, ⟨by omega, KL.next HF.out HN.out hB (HF.out.idle ((New.al (New.refl _) _).toFr NoB) (fun _ x => x.elim) (HM.out.new (New.al (New.refl _) _)))⟩, rfl⟩, by simp [intOf]; omega⟩
  · obtain rfl : k = n := by omega
    go_wp2_with fail
    exact HE.out Ds _ _ _ _ _ _ _ _ _ _ _ _ _ _ _ _ _ _ _ _ _ _ _ _ _ _ _ _ _ _ _ _ _ _ _ _ _ _ _ _ _ _ _ _ _ _ _ _ _ _ _ _ _ _ _ _ _ _ _ _ _ _ _ _ _ _ _ _ _ _ _ _ _ _ _ _ _ _ _ _ _ _ _ _ _ _ _ _ _ _ _ _ _ _ _ _ _ _ _ _ _ _ _ _ _ _ _ _ _ _ _ _ _ _ _ _ _ _ _ _ _ _ _ _ _ _ _ _ _ _ _ _ _ _ _ _ _ _ _ _ _ _ _ _ _ _ _ _ _ _ _ _ _ _ _ _ _ _ _ _ _ wr ⟨⟨X, l1, l2, f, m, lf, HF.out⟩, HM.out, HN.out⟩
set_option maxHeartbeats 4000000 in
set_option maxRecDepth 100000 in
theorem k_loop {x0 x1 x4 x7 x14 x15 x16 x17 x18 x19 x20 x21 x22 x23 x24 x25 x26 x27 x28 x131 u2 u8 u9 u10 u11 u12 u13 u32 u33 u34 u35 u36 u37 u38 u39 u40 u41 u42 u43 u44 u45 u46 u47 u48 u49 u50 u51 u52 u53 u54 u55 u56 u57 u58 u59 u60 u61 u62 u63 u64 u65 u66 u67 u68 u69 u70 u71 u72 u73 u74 u75 u76 u77 u78 u79 u80 u81 u82 u83 u84 u85 u86 u87 u88 u89 u90 u91 u92 u93 u94 u95 u96 u97 u98 u99 u100 u101 u102 u103 u104 u105 u106 u107 u108 u109 u110 u111 u112 u113 u114 u115 u116 u117 u118 u119 u120 u121 u122 u123 u124 u125 u126 u127 u128 u129 u130 u132 u133 u134 u135 u136 u137 u138 u139 u140 u141 u142 u143 u144 u145 u146 u147 u148 u149 u150 u151 u152 u153 u154 u155 u156 u157 u158 u159 u160 u161 u162 u163 u164 u165 u166 u167 u168 u169 u170 u171 u172 u173 u174 u175 u176 u177 u178 u179 u180 u181 u182 u183 u184 u185 u186 : Value} {w : World} {base g bl gb c0 : Nat} {C : Bool → Nat} {A : Option Addr} {n c : Nat} (L : List Ac) (hL : L.length = n) (hR : Rd (fun b => b < w.heap.size) w 4 A n (L.flatMap Ac.cells)) (hg : ∀ a ∈ L, a.Good w) (h6 : n ≤ 600) (h2 : ∀ a ∈ L, a.x.n ≤ 200) (hB : w.heap.size ≤ base) {Q0 : Exit → Act → World → Prop} {wr : World}
    (h0 : KL w base g bl gb c0 C 0 [] wr)
    (hexit : ∀ (Ds : List Nat) (u2 u8 u9 u10 u11 u12 u13 u32 u33 u34 u35 u36 u37 u38 u39 u40 u41 u42 u43 u44 u45 u46 u47 u48 u49 u50 u51 u52 u53 u54 u55 u56 u57 u58 u59 u60 u61 u62 u63 u64 u65 u66 u67 u68 u69 u70 u71 u72 u73 u74 u75 u76 u77 u78 u79 u80 u81 u82 u83 u84 u85 u86 u87 u88 u89 u90 u91 u92 u93 u94 u95 u96 u97 u98 u99 u100 u101 u102 u103 u104 u105 u106 u107 u108 u109 u110 u111 u112 u113 u114 u115 u116 u117 u118 u119 u120 u121 u122 u123 u124 u125 u126 u127 u128 u129 u130 u132 u133 u134 u135 u136 u137 u138 u139 u140 u141 u142 u143 u144 u145 u146 u147 u148 u149 u150 u151 u152 u153 u154 u155 u156 u157 u158 u159 u160 u161 u162 u163 u164 u165 u166 u167 u168 u169 u170 u171 u172 u173 u174 u175 u176 u177 u178 u179 u180 u181 u182 u183 u184 u185 u186 : Value) (wr : World), KL w base g bl gb c0 C n Ds wr → Q0 (.exit 0) ⟨#[x0, x1, u2, .pointer (some ⟨g, 0, none⟩), x4, .pointer (some ⟨bl, 0, none⟩), .pointer (some ⟨gb, 0, none⟩), x7, u8, u9, u10, u11, u12, u13, x14, x15, x16, x17, x18, x19, x20, x21, x22, x23, x24, x25, x26, x27, x28, .slice A n c, .int .i64 n, .int .i64 n, u32, u33, u34, u35, u36, u37, u38, u39, u40, u41, u42, u43, u44, u45, u46, u47, u48, u49, u50, u51, u52, u53, u54, u55, u56, u57, u58, u59, u60, u61, u62, u63, u64, u65, u66, u67, u68, u69, u70, u71, u72, u73, u74, u75, u76, u77, u78, u79, u80, u81, u82, u83, u84, u85, u86, u87, u88, u89, u90, u91, u92, u93, u94, u95, u96, u97, u98, u99, u100, u101, u102, u103, u104, u105, u106, u107, u108, u109, u110, u111, u112, u113, u114, u115, u116, u117, u118, u119, u120, u121, u122, u123, u124, u125, u126, u127, u128, u129, u130, x131, u132, u133, u134, u135, u136, u137, u138, u139, u140, u141, u142, u143, u144, u145, u146, u147, u148, u149, u150, u151, u152, u153, u154, u155, u156, u157, u158, u159, u160, u161, u162, u163, u164, u165, u166, u167, u168, u169, u170, u171, u172, u173, u174, u175, u176, u177, u178, u179, u180, u181, u182, u183, u184, u185, u186], Ds.map mk1⟩ wr) :
    Code.wp Try.prog (Code.loop klp) Q0 ⟨#[x0, x1, u2, .pointer (some ⟨g, 0, none⟩), x4, .pointer (some ⟨bl, 0, none⟩), .pointer (some ⟨gb, 0, none⟩), x7, u8, u9, u10, u11, u12, u13, x14, x15, x16, x17, x18, x19, x20, x21, x22, x23, x24, x25, x26, x27, x28, .slice A n c, .int .i64 n, .int .i64 0, u32, u33, u34, u35, u36, u37, u38, u39, u40, u41, u42, u43, u44, u45, u46, u47, u48, u49, u50, u51, u52, u53, u54, u55, u56, u57, u58, u59, u60, u61, u62, u63, u64, u65, u66, u67, u68, u69, u70, u71, u72, u73, u74, u75, u76, u77, u78, u79, u80, u81, u82, u83, u84, u85, u86, u87, u88, u89, u90, u91, u92, u93, u94, u95, u96, u97, u98, u99, u100, u101, u102, u103, u104, u105, u106, u107, u108, u109, u110, u111, u112, u113, u114, u115, u116, u117, u118, u119, u120, u121, u122, u123, u124, u125, u126, u127, u128, u129, u130, x131, u132, u133, u134, u135, u136, u137, u138, u139, u140, u141, u142, u143, u144, u145, u146, u147, u148, u149, u150, u151, u152, u153, u154, u155, u156, u157, u158, u159, u160, u161, u162, u163, u164, u165, u166, u167, u168, u169, u170, u171, u172, u173, u174, u175, u176, u177, u178, u179, u180, u181, u182, u183, u184, u185, u186], []⟩ wr := by
  refine wp_loop (KW x0 x1 x4 x7 x14 x15 x16 x17 x18 x19 x20 x21 x22 x23 x24 x25 x26 x27 x28 x131 w base g bl gb c0 C A n c) (Kmu n) ?_ (fun a w'' hI => k_round L hL hR hg h6 h2 hB hexit a w'' hI)
  unfold KW
  exact ⟨[], _, _, _, _, _, _, _, _, _, _, _, _, _, _, _, _, _, _, _, _, _, _, _, _, _, _, _, _, _, _, _, _, _, _, _, _, _, _, _, _, _, _, _, _, _, _, _, _, _, _, _, _, _, _, _, _, _, _, _, _, _, _, _, _, _, _, _, _, _, _, _, _, _, _, _, _, _, _, _, _, _, _, _, _, _, _, _, _, _, _, _, _, _, _, _, _, _, _, _, _, _, _, _, _, _, _, _, _, _, _, _, _, _, _, _, _, _, _, _, _, _, _, _, _, _, _, _, _, _, _, _, _, _, _, _, _, _, _, _, _, _, _, _, _, _, _, _, _, _, _, _, _, _, _, _, _, _, _, _, _, _, 0, ⟨Nat.zero_le _, h0⟩, rfl⟩
set_option maxHeartbeats 16000000 in
set_option maxRecDepth 100000 in
theorem keeps_walk (A : Option Addr) (n c : Nat) (L : List Ac) (w : World) (hn : n ≤ maxLen) (hL : L.length = n) (hR : Rd (fun b => b < w.heap.size) w 4 A n (L.flatMap Ac.cells)) (hg : ∀ a ∈ L, a.Good w) :
    Calls Try.prog 4 #[.slice A n c] w fun e w' => e = .returned (.bool true) ∧ New w w' := by
  have HR := Lib.hid hR
  have HL := Lib.hid hL
  have HG := Lib.hid hg
  have HLL := Lib.hid (fun w1 (hN : New w w1) => long_law A n c L w1 (hN.rd hR) hL hn (fun a ha => (hg a ha).nn))
  have hmm := @run_makeMap Try.prog
  unfold maxLen at hn
  clear hR hL hg
  refine (callsIn_wide (n := 3)).1 ?_
  refine callsIn_of_wp_marks Try.func4 rfl trivial ?_ rfl
  refine wpIn_wide.2 ?_
  simp only [Try.ntmps4, List.size_toArray, List.length_cons, List.length_nil, Nat.reduceAdd, Nat.reduceSub, Array.replicate_succ, Array.replicate_zero, List.push_toArray, List.append_toArray, List.nil_append, List.cons_append]
  go_wp2_with fail
  refine (alive_any w).mono ?_
  rintro e w1 ⟨rfl, hN1⟩
  have HN1 : Hid (New w w1) := Lib.hid hN1
  clear hN1
  go_wp2_with fail
  refine (HLL.out w1 HN1.out).mono ?_
  rintro e w2 ⟨⟨lb, rfl, hlb⟩, hN2⟩
  have HN2 : Hid (New w w2) := Lib.hid (HN1.out.tr hN2)
  have HLB := Lib.hid hlb
  clear hN2 hlb HLL
  rcases lb with _ | _
  · obtain ⟨h600, h200⟩ := HLB.out rfl
    have H200 := Lib.hid h200
    clear HLB h200 hn
    go_wp2_with fail
    refine (new_ok 3 w2.heap.size w2 (by omega) (by omega) (Nat.le_refl _)).mono ?_
    rintro e w3 ⟨rfl, b1, b2, hT, hN3⟩
    obtain ⟨g, hg⟩ : ∃ g, g = w2.heap.size := ⟨_, rfl⟩
    obtain ⟨base, hbs⟩ : ∃ base, base = w2.heap.size := ⟨_, rfl⟩
    have HT : Hid (Nt (fun _ => False) w3 base g 3 (L0 b1) (L0 b2) 0) := Lib.hid (by rw [hg, hbs]; exact hT)
    have HN3 : Hid (New w w3) := Lib.hid (HN2.out.tr hN3)
    have HBS : Hid (w.heap.size ≤ base) := Lib.hid (by rw [hbs]; exact HN2.out.size)
    rw [← hg]
    clear hT hN3 hg hbs
    go_wp2_with fail
    obtain ⟨w4, hw4⟩ : ∃ w4 : World, w4 = (((w3.alloc (.map #[] 0)).alloc (.map #[] 0)).alloc (.map #[] 0)).alloc (.cells #[.map (some w3.heap.size), .map (some (w3.heap.size + 1)), .map (some (w3.heap.size + 1 + 1))] 31) := ⟨_, rfl⟩
    obtain ⟨c0, hc0⟩ : ∃ c0, c0 = w3.heap.size := ⟨_, rfl⟩
    obtain ⟨c1, hc1⟩ : ∃ c1, c1 = w3.heap.size + 1 := ⟨_, rfl⟩
    obtain ⟨c2, hc2⟩ : ∃ c2, c2 = w3.heap.size + 1 + 1 := ⟨_, rfl⟩
    obtain ⟨bl, hbl⟩ : ∃ bl, bl = w3.heap.size + 1 + 1 + 1 := ⟨_, rfl⟩
    have HN4 : Hid (New w3 w4) := Lib.hid (by rw [hw4]; exact New.al (New.al (New.al (New.al (New.refl _) _) _) _) _)
    have HBL : Hid (Blk w4 bl 31 #[.map (some c0), .map (some c1), .map (some c2)]) := Lib.hid (by rw [hw4, hbl, hc0, hc1, hc2]; exact Blk.new' _ _ _ (by simp))
    have HM1 : Hid (MapAt w4 Try.prog 9 c1 0 (fun _ => none)) := Lib.hid (by
      have := ((MapAt.made (w3.alloc (.map #[] 0)) Try.prog 9).alloc (.map #[] 0)).alloc (.cells #[.map (some w3.heap.size), .map (some (w3.heap.size + 1)), .map (some (w3.heap.size + 1 + 1))] 31)
      rw [hw4, hc1]
      simpa using this)
    have HM2 : Hid (MapAt w4 Try.prog 9 c2 0 (fun _ => none)) := Lib.hid (by
      have := (MapAt.made ((w3.alloc (.map #[] 0)).alloc (.map #[] 0)) Try.prog 9).alloc (.cells #[.map (some w3.heap.size), .map (some (w3.heap.size + 1)), .map (some (w3.heap.size + 1 + 1))] 31)
      rw [hw4, hc2]
      simpa using this)
    have h4s : w4.heap.size = w3.heap.size + 1 + 1 + 1 + 1 := by rw [hw4]; simp
    go_upto_region 9 with fail
    rw [← hw4, ← hbl, ← hc2, ← hc1, ← hc0]
    have HC : Hid (w3.heap.size ≤ c0 ∧ c0 < c1 ∧ c1 < c2 ∧ c2 < bl) := Lib.hid (by omega)
    have HB3 : Hid (base ≤ w3.heap.size) := Lib.hid HT.out.base_
    have HBL4 : Hid (bl < w4.heap.size) := Lib.hid (by omega)
    have HW4 : Hid (w4.heap.size = bl + 1) := Lib.hid (by omega)
    clear hw4 hc0 hc1 hc2 hbl h4s
    obtain ⟨w5, hw5⟩ : ∃ w5 : World, w5 = w4.alloc (.cells #[.int .i64 0, .int .i64 0, .int .i64 0] 49) := ⟨_, rfl⟩
    obtain ⟨gb, hgb⟩ : ∃ gb, gb = bl + 1 := ⟨_, rfl⟩
    have HN5 : Hid (New w4 w5) := Lib.hid (by rw [hw5]; exact New.al (New.refl _) _)
    have HGB : Hid (Blk w5 gb 49 #[.int .i64 0, .int .i64 0, .int .i64 0]) := Lib.hid (by rw [hw5, hgb, ← HW4.out]; exact Blk.new _ _ _)
    go_wp2_with fail
    rw [← hw5, ← hgb]
    have HG4 : Hid (gb = w4.heap.size) := Lib.hid (by rw [HW4.out]; exact hgb)
    clear hw5 hgb
    refine k_loop (w := w) (base := base) (g := g) (bl := bl) (gb := gb) (c0 := c0) (C := fun i => if i then c2 else c1) L HL.out HR.out HG.out h600 H200.out HBS.out ?h0 ?hexit
    case h0 =>
      have hC := HC.out
      have hb3 := HB3.out
      have hg4 := HG4.out
      have hbl := HBL4.out
      refine ⟨⟨fun _ => False, L0 b1, L0 b2, fun _ _ => none, fun _ => 0, fun _ _ => 0, (HT.out.new HN4.out).new HN5.out, HN5.out.blk HBL.out, HGB.out, ?_, fun _ => Nat.le_refl _, fun _ _ _ => rfl, ?_, ?_, ?_, ?_⟩, Marks.nil _ _, (HN3.out.tr HN4.out).tr HN5.out⟩
      · intro i
        cases i
        · exact HM1.out.fr (HN5.out.toFr NoB) (fun x => x)
        · exact HM2.out.fr (HN5.out.toFr NoB) (fun x => x)
      · intro i xs
        cases i <;> simp [cntF, L0, sel]
      · rintro j (hj | hj) hb
        · have h1 := (HT.out.ours hj).2
          rcases hb with rfl | rfl | ⟨i, rfl⟩
          · omega
          · omega
          · cases i <;> simp at h1 <;> omega
        · exact hj.elim
      · show c1 ≠ c2
        omega
      · refine ⟨by omega, by omega, fun i => ?_⟩
        cases i <;> simp <;> omega
    case hexit =>
      intro Ds u2 u8 u9 u10 u11 u12 u13 u32 u33 u34 u35 u36 u37 u38 u39 u40 u41 u42 u43 u44 u45 u46 u47 u48 u49 u50 u51 u52 u53 u54 u55 u56 u57 u58 u59 u60 u61 u62 u63 u64 u65 u66 u67 u68 u69 u70 u71 u72 u73 u74 u75 u76 u77 u78 u79 u80 u81 u82 u83 u84 u85 u86 u87 u88 u89 u90 u91 u92 u93 u94 u95 u96 u97 u98 u99 u100 u101 u102 u103 u104 u105 u106 u107 u108 u109 u110 u111 u112 u113 u114 u115 u116 u117 u118 u119 u120 u121 u122 u123 u124 u125 u126 u127 u128 u129 u130 u132 u133 u134 u135 u136 u137 u138 u139 u140 u141 u142 u143 u144 u145 u146 u147 u148 u149 u150 u151 u152 u153 u154 u155 u156 u157 u158 u159 u160 u161 u162 u163 u164 u165 u166 u167 u168 u169 u170 u171 u172 u173 u174 u175 u176 u177 u178 u179 u180 u181 u182 u183 u184 u185 u186 wr hFL
      have HFL := Lib.hid hFL
      clear hFL
      go_wp2_with fail
      refine leaves_marks Ds wr HFL.out.2.1 (fun W' hS => ⟨.bool true, ?_, rfl, Below.trans HFL.out.2.2 hS.below⟩)
      simp [results, Try.results4, go_sem]
  · clear HLB hn
    go_wp2_with fail
    refine ⟨.bool true, ?_, rfl, HN2.out⟩
    simp [results, Try.results4, go_sem]
end Go.Proofs.Ytajoahhjgloefaa
