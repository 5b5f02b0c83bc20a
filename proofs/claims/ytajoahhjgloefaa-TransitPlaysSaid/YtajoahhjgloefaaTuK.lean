/- TransitPlays: a round, the loop. (mkplaysb.py writes this text.) No condition. -/
import Derived.Test.YtajoahhjgloefaaTuJ
namespace Go.Proofs.Ytajoahhjgloefaa
open Go.RowKit Go.Maps Go.Sort

noncomputable def plp : Code := loopOfP ((Try.f5.body.bind (findP isLoopP)).getD .skip)
def PL (w : World) (base g b7 : Nat) (p : Int) (k : Nat) (W : World) : Prop := ∃ X l1 l2 P s cs, PS w base g b7 p (2 * k) W X l1 l2 P s s cs
set_option maxRecDepth 100000 in
def PW (x2 x3 x8 x18 x19 x20 x21 x22 x23 x24 x25 x26 x27 x28 x29 x30 x31 x32 x33 x34 x35 x36 x37 x38 x39 x40 x41 x42 x165 x166 x167 x168 x169 x170 x171 x172 x173 x174 x175 x176 x177 x178 x179 x180 x181 x182 x183 x184 x185 x186 x187 x188 x189 x190 x191 x192 x193 x194 : Value) (w : World) (base g b7 : Nat) (p : Int) (A : Option Addr) (n c : Nat) (act : Act) (wr : World) : Prop :=
  ∃ (u4 u6 u9 u10 u11 u12 u13 u14 u15 u16 u17 u46 u47 u48 u49 u50 u51 u52 u53 u54 u55 u56 u57 u58 u59 u60 u61 u62 u63 u64 u65 u66 u67 u68 u69 u70 u71 u72 u73 u74 u75 u76 u77 u78 u79 u80 u81 u82 u83 u84 u85 u86 u87 u88 u89 u90 u91 u92 u93 u94 u95 u96 u97 u98 u99 u100 u101 u102 u103 u104 u105 u106 u107 u108 u109 u110 u111 u112 u113 u114 u115 u116 u117 u118 u119 u120 u121 u122 u123 u124 u125 u126 u127 u128 u129 u130 u131 u132 u133 u134 u135 u136 u137 u138 u139 u140 u141 u142 u143 u144 u145 u146 u147 u148 u149 u150 u151 u152 u153 u154 u155 u156 u157 u158 u159 u160 u161 u162 u163 u164 : Value) (k : Nat), (k ≤ n ∧ PL w base g b7 p k wr) ∧ act = ⟨#[.int .i64 p, .slice A n c, x2, x3, u4, .pointer (some ⟨g, 0, none⟩), u6, .pointer (some ⟨b7, 0, none⟩), x8, u9, u10, u11, u12, u13, u14, u15, u16, u17, x18, x19, x20, x21, x22, x23, x24, x25, x26, x27, x28, x29, x30, x31, x32, x33, x34, x35, x36, x37, x38, x39, x40, x41, x42, .slice A n c, .int .i64 n, .int .i64 k, u46, u47, u48, u49, u50, u51, u52, u53, u54, u55, u56, u57, u58, u59, u60, u61, u62, u63, u64, u65, u66, u67, u68, u69, u70, u71, u72, u73, u74, u75, u76, u77, u78, u79, u80, u81, u82, u83, u84, u85, u86, u87, u88, u89, u90, u91, u92, u93, u94, u95, u96, u97, u98, u99, u100, u101, u102, u103, u104, u105, u106, u107, u108, u109, u110, u111, u112, u113, u114, u115, u116, u117, u118, u119, u120, u121, u122, u123, u124, u125, u126, u127, u128, u129, u130, u131, u132, u133, u134, u135, u136, u137, u138, u139, u140, u141, u142, u143, u144, u145, u146, u147, u148, u149, u150, u151, u152, u153, u154, u155, u156, u157, u158, u159, u160, u161, u162, u163, u164, x165, x166, x167, x168, x169, x170, x171, x172, x173, x174, x175, x176, x177, x178, x179, x180, x181, x182, x183, x184, x185, x186, x187, x188, x189, x190, x191, x192, x193, x194], []⟩
def Pmu (n : Nat) (a : Act) (_ : World) : Nat := n - (intOf (a.tmps.getD 45 undef)).toNat
set_option maxHeartbeats 16000000 in
set_option maxRecDepth 100000 in
theorem p_round {x2 x3 x8 x18 x19 x20 x21 x22 x23 x24 x25 x26 x27 x28 x29 x30 x31 x32 x33 x34 x35 x36 x37 x38 x39 x40 x41 x42 x165 x166 x167 x168 x169 x170 x171 x172 x173 x174 x175 x176 x177 x178 x179 x180 x181 x182 x183 x184 x185 x186 x187 x188 x189 x190 x191 x192 x193 x194 : Value} {w : World} {base g b7 : Nat} {p : Int} {A : Option Addr} {n c : Nat} (L : List Ac) (hL : L.length = n) (hR : Rd (fun b => b < w.heap.size) w 4 A n (L.flatMap Ac.cells)) (hg : ∀ a ∈ L, a.Good w) (h6 : n ≤ 600) (h2 : ∀ a ∈ L, a.x.n ≤ 200) (hp0 : 0 ≤ p) (hp1 : p ≤ 64) {Q0 : Exit → Act → World → Prop}
    (hexit : ∀ (u4 u6 u9 u10 u11 u12 u13 u14 u15 u16 u17 u46 u47 u48 u49 u50 u51 u52 u53 u54 u55 u56 u57 u58 u59 u60 u61 u62 u63 u64 u65 u66 u67 u68 u69 u70 u71 u72 u73 u74 u75 u76 u77 u78 u79 u80 u81 u82 u83 u84 u85 u86 u87 u88 u89 u90 u91 u92 u93 u94 u95 u96 u97 u98 u99 u100 u101 u102 u103 u104 u105 u106 u107 u108 u109 u110 u111 u112 u113 u114 u115 u116 u117 u118 u119 u120 u121 u122 u123 u124 u125 u126 u127 u128 u129 u130 u131 u132 u133 u134 u135 u136 u137 u138 u139 u140 u141 u142 u143 u144 u145 u146 u147 u148 u149 u150 u151 u152 u153 u154 u155 u156 u157 u158 u159 u160 u161 u162 u163 u164 : Value) (wr : World), PL w base g b7 p n wr → Q0 (.exit 0) ⟨#[.int .i64 p, .slice A n c, x2, x3, u4, .pointer (some ⟨g, 0, none⟩), u6, .pointer (some ⟨b7, 0, none⟩), x8, u9, u10, u11, u12, u13, u14, u15, u16, u17, x18, x19, x20, x21, x22, x23, x24, x25, x26, x27, x28, x29, x30, x31, x32, x33, x34, x35, x36, x37, x38, x39, x40, x41, x42, .slice A n c, .int .i64 n, .int .i64 n, u46, u47, u48, u49, u50, u51, u52, u53, u54, u55, u56, u57, u58, u59, u60, u61, u62, u63, u64, u65, u66, u67, u68, u69, u70, u71, u72, u73, u74, u75, u76, u77, u78, u79, u80, u81, u82, u83, u84, u85, u86, u87, u88, u89, u90, u91, u92, u93, u94, u95, u96, u97, u98, u99, u100, u101, u102, u103, u104, u105, u106, u107, u108, u109, u110, u111, u112, u113, u114, u115, u116, u117, u118, u119, u120, u121, u122, u123, u124, u125, u126, u127, u128, u129, u130, u131, u132, u133, u134, u135, u136, u137, u138, u139, u140, u141, u142, u143, u144, u145, u146, u147, u148, u149, u150, u151, u152, u153, u154, u155, u156, u157, u158, u159, u160, u161, u162, u163, u164, x165, x166, x167, x168, x169, x170, x171, x172, x173, x174, x175, x176, x177, x178, x179, x180, x181, x182, x183, x184, x185, x186, x187, x188, x189, x190, x191, x192, x193, x194], []⟩ wr)
    (a : Act) (wr : World) (hI : PW x2 x3 x8 x18 x19 x20 x21 x22 x23 x24 x25 x26 x27 x28 x29 x30 x31 x32 x33 x34 x35 x36 x37 x38 x39 x40 x41 x42 x165 x166 x167 x168 x169 x170 x171 x172 x173 x174 x175 x176 x177 x178 x179 x180 x181 x182 x183 x184 x185 x186 x187 x188 x189 x190 x191 x192 x193 x194 w base g b7 p A n c a wr) : plp.wp Try.prog (Exit.then (fun a' w' => PW x2 x3 x8 x18 x19 x20 x21 x22 x23 x24 x25 x26 x27 x28 x29 x30 x31 x32 x33 x34 x35 x36 x37 x38 x39 x40 x41 x42 x165 x166 x167 x168 x169 x170 x171 x172 x173 x174 x175 x176 x177 x178 x179 x180 x181 x182 x183 x184 x185 x186 x187 x188 x189 x190 x191 x192 x193 x194 w base g b7 p A n c a' w' ∧ Pmu n a' w' < Pmu n a wr) Q0) a wr := by
  have HE := Lib.hid hexit
  have HR := Lib.hid hR
  have HL := Lib.hid hL
  have HG := Lib.hid hg
  have H2 := Lib.hid h2
  clear hexit hR hL hg h2
  unfold PW at hI
  obtain ⟨u4, hI⟩ := hI
  obtain ⟨u6, hI⟩ := hI
  obtain ⟨u9, hI⟩ := hI
  obtain ⟨u10, hI⟩ := hI
  obtain ⟨u11, hI⟩ := hI
  obtain ⟨u12, hI⟩ := hI
  obtain ⟨u13, hI⟩ := hI
  obtain ⟨u14, hI⟩ := hI
  obtain ⟨u15, hI⟩ := hI
  obtain ⟨u16, hI⟩ := hI
  obtain ⟨u17, hI⟩ := hI
  obtain ⟨u46, hI⟩ := hI
  obtain ⟨u47, hI⟩ := hI
  obtain ⟨u48, hI⟩ := hI
  obtain ⟨u49, hI⟩ := hI
  obtain ⟨u50, hI⟩ := hI
  obtain ⟨u51, hI⟩ := hI
  obtain ⟨u52, hI⟩ := hI
  obtain ⟨u53, hI⟩ := hI
  obtain ⟨u54, hI⟩ := hI
  obtain ⟨u55, hI⟩ := hI
  obtain ⟨u56, hI⟩ := hI
  obtain ⟨u57, hI⟩ := hI
  obtain ⟨u58, hI⟩ := hI
  obtain ⟨u59, hI⟩ := hI
  obtain ⟨u60, hI⟩ := hI
  obtain ⟨u61, hI⟩ := hI
  obtain ⟨u62, hI⟩ := hI
  obtain ⟨u63, hI⟩ := hI
  obtain ⟨u64, hI⟩ := hI
  obtain ⟨u65, hI⟩ := hI
  obtain ⟨u66, hI⟩ := hI
  obtain ⟨u67, hI⟩ := hI
  obtain ⟨u68, hI⟩ := hI
  obtain ⟨u69, hI⟩ := hI
  obtain ⟨u70, hI⟩ := hI
  obtain ⟨u71, hI⟩ := hI
  obtain ⟨u72, hI⟩ := hI
  obtain ⟨u73, hI⟩ := hI
  obtain ⟨u74, hI⟩ := hI
  obtain ⟨u75, hI⟩ := hI
  obtain ⟨u76, hI⟩ := hI
  obtain ⟨u77, hI⟩ := hI
  obtain ⟨u78, hI⟩ := hI
  obtain ⟨u79, hI⟩ := hI
  obtain ⟨u80, hI⟩ := hI
  obtain ⟨u81, hI⟩ := hI
  obtain ⟨u82, hI⟩ := hI
  obtain ⟨u83, hI⟩ := hI
  obtain ⟨u84, hI⟩ := hI
  obtain ⟨u85, hI⟩ := hI
  obtain ⟨u86, hI⟩ := hI
  obtain ⟨u87, hI⟩ := hI
  obtain ⟨u88, hI⟩ := hI
  obtain ⟨u89, hI⟩ := hI
  obtain ⟨u90, hI⟩ := hI
  obtain ⟨u91, hI⟩ := hI
  obtain ⟨u92, hI⟩ := hI
  obtain ⟨u93, hI⟩ := hI
  obtain ⟨u94, hI⟩ := hI
  obtain ⟨u95, hI⟩ := hI
  obtain ⟨u96, hI⟩ := hI
  obtain ⟨u97, hI⟩ := hI
  obtain ⟨u98, hI⟩ := hI
  obtain ⟨u99, hI⟩ := hI
  obtain ⟨u100, hI⟩ := hI
  obtain ⟨u101, hI⟩ := hI
  obtain ⟨u102, hI⟩ := hI
  obtain ⟨u103, hI⟩ := hI
  obtain ⟨u104, hI⟩ := hI
  obtain ⟨u105, hI⟩ := hI
  obtain ⟨u106, hI⟩ := hI
  obtain ⟨u107, hI⟩ := hI
  obtain ⟨u108, hI⟩ := hI
  obtain ⟨u109, hI⟩ := hI
  obtain ⟨u110, hI⟩ := hI
  obtain ⟨u111, hI⟩ := hI
  obtain ⟨u112, hI⟩ := hI
  obtain ⟨u113, hI⟩ := hI
  obtain ⟨u114, hI⟩ := hI
  obtain ⟨u115, hI⟩ := hI
  obtain ⟨u116, hI⟩ := hI
  obtain ⟨u117, hI⟩ := hI
  obtain ⟨u118, hI⟩ := hI
  obtain ⟨u119, hI⟩ := hI
  obtain ⟨u120, hI⟩ := hI
  obtain ⟨u121, hI⟩ := hI
  obtain ⟨u122, hI⟩ := hI
  obtain ⟨u123, hI⟩ := hI
  obtain ⟨u124, hI⟩ := hI
  obtain ⟨u125, hI⟩ := hI
  obtain ⟨u126, hI⟩ := hI
  obtain ⟨u127, hI⟩ := hI
  obtain ⟨u128, hI⟩ := hI
  obtain ⟨u129, hI⟩ := hI
  obtain ⟨u130, hI⟩ := hI
  obtain ⟨u131, hI⟩ := hI
  obtain ⟨u132, hI⟩ := hI
  obtain ⟨u133, hI⟩ := hI
  obtain ⟨u134, hI⟩ := hI
  obtain ⟨u135, hI⟩ := hI
  obtain ⟨u136, hI⟩ := hI
  obtain ⟨u137, hI⟩ := hI
  obtain ⟨u138, hI⟩ := hI
  obtain ⟨u139, hI⟩ := hI
  obtain ⟨u140, hI⟩ := hI
  obtain ⟨u141, hI⟩ := hI
  obtain ⟨u142, hI⟩ := hI
  obtain ⟨u143, hI⟩ := hI
  obtain ⟨u144, hI⟩ := hI
  obtain ⟨u145, hI⟩ := hI
  obtain ⟨u146, hI⟩ := hI
  obtain ⟨u147, hI⟩ := hI
  obtain ⟨u148, hI⟩ := hI
  obtain ⟨u149, hI⟩ := hI
  obtain ⟨u150, hI⟩ := hI
  obtain ⟨u151, hI⟩ := hI
  obtain ⟨u152, hI⟩ := hI
  obtain ⟨u153, hI⟩ := hI
  obtain ⟨u154, hI⟩ := hI
  obtain ⟨u155, hI⟩ := hI
  obtain ⟨u156, hI⟩ := hI
  obtain ⟨u157, hI⟩ := hI
  obtain ⟨u158, hI⟩ := hI
  obtain ⟨u159, hI⟩ := hI
  obtain ⟨u160, hI⟩ := hI
  obtain ⟨u161, hI⟩ := hI
  obtain ⟨u162, hI⟩ := hI
  obtain ⟨u163, hI⟩ := hI
  obtain ⟨u164, hI⟩ := hI

  obtain ⟨k, ⟨hk, X, l1, l2, P, s, cs, hPS⟩, rfl⟩ := hI
  have HF := Lib.hid hPS
  clear hPS
  conv => arg 2; whnf
  by_cases hlt : k < n
  · obtain ⟨gA, oA, hl, rfl, -, -, hrg⟩ := rd_row (f := Ac.cells) (L := L) (fun _ => rfl) (by omega) (HF.out.new.rd HR.out) hlt
    have c0 : wr.cell? ⟨gA, oA + k * 4, none⟩ = some (.int .i64 L[k].kd) := hrg 0 _ rfl
    have c1 := hrg 1 _ rfl
    have c2 := hrg 2 _ rfl
    have c3 := hrg 3 _ rfl
    have hag := HG.out L[k] (List.getElem_mem _)
    have ha2 := H2.out L[k] (List.getElem_mem _)
    generalize L[k] = ac at c0 c1 c2 c3 hag ha2
    obtain ⟨kd, wv, pk, xA, xn, xc, xs⟩ := ac
    dsimp only at c0 c1 c2 c3 ha2
    have HAG := Lib.hid hag
    have HA2 := Lib.hid ha2
    have hk0 : (0 : Int) ≤ (k : Int) := by omega
    have hkn : (k : Int) < (n : Int) := by omega
    clear hrg hl hag ha2
    go_upto_region 12 with fail
    obtain ⟨wb, hwb⟩ : ∃ wb : World, wb = wr.alloc (.cells #[.int .i64 kd, .int .i64 wv, .int .u64 pk, .slice xA xn xc] 35) := ⟨_, rfl⟩
    obtain ⟨b9, hb9⟩ : ∃ b9, b9 = wr.heap.size := ⟨_, rfl⟩
    have HNb : Hid (New wr wb) := Lib.hid (by rw [hwb]; exact New.al (New.refl _) _)
    have HB9 : Hid (Blk wb b9 35 #[.int .i64 kd, .int .i64 wv, .int .u64 pk, .slice xA xn xc]) := Lib.hid (by rw [hwb, hb9]; exact Blk.new _ _ _)
    rw [← hwb, ← hb9]
    have HZ := Lib.hid hb9
    clear hwb hb9
    have d0 : wb.cell? ⟨b9, 0, none⟩ = some (.int .i64 kd) := HB9.out.cell 0
    clear c0 c1 c2 c3
    go_upto_block 2 with fail
    generalize (IntKind.u64.wrap kd).tmod 5 = q
    have HFb := Lib.hid (HF.out.keep HNb.out)
    have hsw : PwIn w base g b7 b9 p (2 * k) wb X l1 l2 P s cs ⟨kd, wv, pk, xA, xn, xc, xs⟩ := by
      refine ⟨HFb.out, by omega, hp0, hp1, HB9.out, ⟨?_, ?_, ?_⟩, HAG.out.p0, HAG.out.p1, (HFb.out.new.rd HAG.out.rd), HAG.out.by_, ?_⟩
      · rw [HZ.out]; exact HF.out.new.size
      · rw [HZ.out]; intro e; have := (HF.out.nr.nt.ours e).2; omega
      · rw [HZ.out]; intro e; have := HF.out.B7.lt; omega
      · have := HA2.out; show xn ≤ 1000; omega
    have HSW := Lib.hid hsw
    clear hsw d0
    refine wp_sw (fun a' w' => ∃ (bad : Int) (u4 u11 u12 u13 u14 u15 u16 u17 u46 u47 u48 u49 u50 u51 u52 u53 u54 u55 u56 u57 u58 u59 u60 u61 u62 u63 u64 u65 u66 u67 u68 u69 u70 u71 u72 u73 u74 u75 u76 u77 u78 u79 u80 u81 u82 u83 u84 u85 u86 u87 u88 u89 u90 u91 u92 u93 u94 u95 u96 u97 u98 u99 u100 u101 u102 u103 u104 u105 u106 u107 u108 u109 u110 u111 u112 u113 u114 u115 u116 u117 u118 u119 u120 u121 u122 u123 u124 u125 u126 u127 u128 u129 u130 u131 u132 u133 u134 u135 u136 u137 u138 u139 u140 u141 u142 u143 u144 u145 u146 u147 u148 u149 u150 u151 u152 u153 u154 u155 u156 u157 u158 u159 u160 u161 u162 u163 u164 : Value), PX w base g b7 b9 p (2 * k) ⟨kd, wv, pk, xA, xn, xc, xs⟩ bad w' ∧ a' = ⟨#[.int .i64 p, .slice (some ⟨gA, oA, none⟩) n c, x2, x3, u4, .pointer (some ⟨g, 0, none⟩), errV bad, .pointer (some ⟨b7, 0, none⟩), x8, .pointer (some ⟨b9, 0, none⟩), .int .i64 bad, u11, u12, u13, u14, u15, u16, u17, x18, x19, x20, x21, x22, x23, x24, x25, x26, x27, x28, x29, x30, x31, x32, x33, x34, x35, x36, x37, x38, x39, x40, x41, x42, .slice (some ⟨gA, oA, none⟩) n c, .int .i64 n, .int .i64 k, u46, u47, u48, u49, u50, u51, u52, u53, u54, u55, u56, u57, u58, u59, u60, u61, u62, u63, u64, u65, u66, u67, u68, u69, u70, u71, u72, u73, u74, u75, u76, u77, u78, u79, u80, u81, u82, u83, u84, u85, u86, u87, u88, u89, u90, u91, u92, u93, u94, u95, u96, u97, u98, u99, u100, u101, u102, u103, u104, u105, u106, u107, u108, u109, u110, u111, u112, u113, u114, u115, u116, u117, u118, u119, u120, u121, u122, u123, u124, u125, u126, u127, u128, u129, u130, u131, u132, u133, u134, u135, u136, u137, u138, u139, u140, u141, u142, u143, u144, u145, u146, u147, u148, u149, u150, u151, u152, u153, u154, u155, u156, u157, u158, u159, u160, u161, u162, u163, u164, x165, x166, x167, x168, x169, x170, x171, x172, x173, x174, x175, x176, x177, x178, x179, x180, x181, x182, x183, x184, x185, x186, x187, x188, x189, x190, x191, x192, x193, x194], []⟩) ?rest ?cases
    case cases =>
      intro K' hK
      by_cases hq2 : q = 2
      · subst hq2
        exact ps_take HSW.out (fun bad _ _ _ _ _ _ _ _ _ _ _ _ _ _ _ _ _ _ _ _ _ _ _ _ _ _ _ _ _ _ _ _ _ _ _ _ _ _ _ _ _ _ _ _ _ _ _ _ _ _ _ _ _ _ _ _ _ _ _ _ _ _ _ _ _ _ _ _ _ _ _ _ _ _ _ _ _ _ _ _ _ _ _ _ _ _ _ _ _ _ _ _ _ _ _ _ _ _ _ _ w' hfx => hK _ _ ⟨bad, _, _, _, _, _, _, _, _, _, _, _, _, _, _, _, _, _, _, _, _, _, _, _, _, _, _, _, _, _, _, _, _, _, _, _, _, _, _, _, _, _, _, _, _, _, _, _, _, _, _, _, _, _, _, _, _, _, _, _, _, _, _, _, _, _, _, _, _, _, _, _, _, _, _, _, _, _, _, _, _, _, _, _, _, _, _, _, _, _, _, _, _, _, _, _, _, _, _, _, _, _, _, _, _, _, _, _, _, _, _, _, _, _, _, _, _, _, _, _, _, _, _, _, _, _, _, _, hfx, rfl⟩)
      by_cases hq3 : q = 3
      · subst hq3
        exact ps_lose HSW.out (fun bad _ _ _ _ _ _ _ _ _ _ _ _ _ _ _ _ _ _ _ _ _ _ _ _ _ _ _ _ _ _ _ _ _ _ _ _ _ _ _ _ _ _ _ _ _ _ _ _ _ _ _ _ _ _ _ _ _ _ _ _ _ _ _ _ _ _ _ _ _ _ _ _ _ _ _ _ _ _ _ _ _ _ _ _ _ _ _ _ _ _ _ _ _ _ _ _ _ _ _ _ w' hfx => hK _ _ ⟨bad, _, _, _, _, _, _, _, _, _, _, _, _, _, _, _, _, _, _, _, _, _, _, _, _, _, _, _, _, _, _, _, _, _, _, _, _, _, _, _, _, _, _, _, _, _, _, _, _, _, _, _, _, _, _, _, _, _, _, _, _, _, _, _, _, _, _, _, _, _, _, _, _, _, _, _, _, _, _, _, _, _, _, _, _, _, _, _, _, _, _, _, _, _, _, _, _, _, _, _, _, _, _, _, _, _, _, _, _, _, _, _, _, _, _, _, _, _, _, _, _, _, _, _, _, _, _, _, hfx, rfl⟩)
      by_cases hq4 : q = 4
      · subst hq4
        exact ps_twice HSW.out (fun bad _ _ _ _ _ _ _ _ _ _ _ _ _ _ _ _ _ _ _ _ _ _ _ _ _ _ _ _ _ _ _ _ _ _ _ _ _ _ _ _ _ _ _ _ _ _ _ _ _ _ _ _ _ _ _ _ _ _ _ _ _ _ _ _ _ _ _ _ _ _ _ _ _ _ _ _ _ _ _ _ _ _ _ _ _ _ _ _ _ _ _ _ _ _ _ _ _ _ _ _ w' hfx => hK _ _ ⟨bad, _, _, _, _, _, _, _, _, _, _, _, _, _, _, _, _, _, _, _, _, _, _, _, _, _, _, _, _, _, _, _, _, _, _, _, _, _, _, _, _, _, _, _, _, _, _, _, _, _, _, _, _, _, _, _, _, _, _, _, _, _, _, _, _, _, _, _, _, _, _, _, _, _, _, _, _, _, _, _, _, _, _, _, _, _, _, _, _, _, _, _, _, _, _, _, _, _, _, _, _, _, _, _, _, _, _, _, _, _, _, _, _, _, _, _, _, _, _, _, _, _, _, _, _, _, _, _, hfx, rfl⟩)
      exact ps_send HSW.out q (by simpa using hq2) (by simpa using hq3) (by simpa using hq4) (fun bad _ _ _ _ _ _ _ _ _ _ _ _ _ _ _ _ _ _ _ _ _ _ _ _ _ _ _ _ _ _ _ _ _ _ _ _ _ _ _ _ _ _ _ _ _ _ _ _ _ _ _ _ _ _ _ _ _ _ _ _ _ _ _ _ _ _ _ _ _ _ _ _ _ _ _ _ _ _ _ _ _ _ _ _ _ _ _ _ _ _ _ _ _ _ _ _ _ _ _ _ w' hfx => hK _ _ ⟨bad, _, _, _, _, _, _, _, _, _, _, _, _, _, _, _, _, _, _, _, _, _, _, _, _, _, _, _, _, _, _, _, _, _, _, _, _, _, _, _, _, _, _, _, _, _, _, _, _, _, _, _, _, _, _, _, _, _, _, _, _, _, _, _, _, _, _, _, _, _, _, _, _, _, _, _, _, _, _, _, _, _, _, _, _, _, _, _, _, _, _, _, _, _, _, _, _, _, _, _, _, _, _, _, _, _, _, _, _, _, _, _, _, _, _, _, _, _, _, _, _, _, _, _, _, _, _, _, hfx, rfl⟩)
    case rest =>
      intro a' w' h
      obtain ⟨bad, h⟩ := h
      obtain ⟨u4, h⟩ := h
      obtain ⟨u11, h⟩ := h
      obtain ⟨u12, h⟩ := h
      obtain ⟨u13, h⟩ := h
      obtain ⟨u14, h⟩ := h
      obtain ⟨u15, h⟩ := h
      obtain ⟨u16, h⟩ := h
      obtain ⟨u17, h⟩ := h
      obtain ⟨u46, h⟩ := h
      obtain ⟨u47, h⟩ := h
      obtain ⟨u48, h⟩ := h
      obtain ⟨u49, h⟩ := h
      obtain ⟨u50, h⟩ := h
      obtain ⟨u51, h⟩ := h
      obtain ⟨u52, h⟩ := h
      obtain ⟨u53, h⟩ := h
      obtain ⟨u54, h⟩ := h
      obtain ⟨u55, h⟩ := h
      obtain ⟨u56, h⟩ := h
      obtain ⟨u57, h⟩ := h
      obtain ⟨u58, h⟩ := h
      obtain ⟨u59, h⟩ := h
      obtain ⟨u60, h⟩ := h
      obtain ⟨u61, h⟩ := h
      obtain ⟨u62, h⟩ := h
      obtain ⟨u63, h⟩ := h
      obtain ⟨u64, h⟩ := h
      obtain ⟨u65, h⟩ := h
      obtain ⟨u66, h⟩ := h
      obtain ⟨u67, h⟩ := h
      obtain ⟨u68, h⟩ := h
      obtain ⟨u69, h⟩ := h
      obtain ⟨u70, h⟩ := h
      obtain ⟨u71, h⟩ := h
      obtain ⟨u72, h⟩ := h
      obtain ⟨u73, h⟩ := h
      obtain ⟨u74, h⟩ := h
      obtain ⟨u75, h⟩ := h
      obtain ⟨u76, h⟩ := h
      obtain ⟨u77, h⟩ := h
      obtain ⟨u78, h⟩ := h
      obtain ⟨u79, h⟩ := h
      obtain ⟨u80, h⟩ := h
      obtain ⟨u81, h⟩ := h
      obtain ⟨u82, h⟩ := h
      obtain ⟨u83, h⟩ := h
      obtain ⟨u84, h⟩ := h
      obtain ⟨u85, h⟩ := h
      obtain ⟨u86, h⟩ := h
      obtain ⟨u87, h⟩ := h
      obtain ⟨u88, h⟩ := h
      obtain ⟨u89, h⟩ := h
      obtain ⟨u90, h⟩ := h
      obtain ⟨u91, h⟩ := h
      obtain ⟨u92, h⟩ := h
      obtain ⟨u93, h⟩ := h
      obtain ⟨u94, h⟩ := h
      obtain ⟨u95, h⟩ := h
      obtain ⟨u96, h⟩ := h
      obtain ⟨u97, h⟩ := h
      obtain ⟨u98, h⟩ := h
      obtain ⟨u99, h⟩ := h
      obtain ⟨u100, h⟩ := h
      obtain ⟨u101, h⟩ := h
      obtain ⟨u102, h⟩ := h
      obtain ⟨u103, h⟩ := h
      obtain ⟨u104, h⟩ := h
      obtain ⟨u105, h⟩ := h
      obtain ⟨u106, h⟩ := h
      obtain ⟨u107, h⟩ := h
      obtain ⟨u108, h⟩ := h
      obtain ⟨u109, h⟩ := h
      obtain ⟨u110, h⟩ := h
      obtain ⟨u111, h⟩ := h
      obtain ⟨u112, h⟩ := h
      obtain ⟨u113, h⟩ := h
      obtain ⟨u114, h⟩ := h
      obtain ⟨u115, h⟩ := h
      obtain ⟨u116, h⟩ := h
      obtain ⟨u117, h⟩ := h
      obtain ⟨u118, h⟩ := h
      obtain ⟨u119, h⟩ := h
      obtain ⟨u120, h⟩ := h
      obtain ⟨u121, h⟩ := h
      obtain ⟨u122, h⟩ := h
      obtain ⟨u123, h⟩ := h
      obtain ⟨u124, h⟩ := h
      obtain ⟨u125, h⟩ := h
      obtain ⟨u126, h⟩ := h
      obtain ⟨u127, h⟩ := h
      obtain ⟨u128, h⟩ := h
      obtain ⟨u129, h⟩ := h
      obtain ⟨u130, h⟩ := h
      obtain ⟨u131, h⟩ := h
      obtain ⟨u132, h⟩ := h
      obtain ⟨u133, h⟩ := h
      obtain ⟨u134, h⟩ := h
      obtain ⟨u135, h⟩ := h
      obtain ⟨u136, h⟩ := h
      obtain ⟨u137, h⟩ := h
      obtain ⟨u138, h⟩ := h
      obtain ⟨u139, h⟩ := h
      obtain ⟨u140, h⟩ := h
      obtain ⟨u141, h⟩ := h
      obtain ⟨u142, h⟩ := h
      obtain ⟨u143, h⟩ := h
      obtain ⟨u144, h⟩ := h
      obtain ⟨u145, h⟩ := h
      obtain ⟨u146, h⟩ := h
      obtain ⟨u147, h⟩ := h
      obtain ⟨u148, h⟩ := h
      obtain ⟨u149, h⟩ := h
      obtain ⟨u150, h⟩ := h
      obtain ⟨u151, h⟩ := h
      obtain ⟨u152, h⟩ := h
      obtain ⟨u153, h⟩ := h
      obtain ⟨u154, h⟩ := h
      obtain ⟨u155, h⟩ := h
      obtain ⟨u156, h⟩ := h
      obtain ⟨u157, h⟩ := h
      obtain ⟨u158, h⟩ := h
      obtain ⟨u159, h⟩ := h
      obtain ⟨u160, h⟩ := h
      obtain ⟨u161, h⟩ := h
      obtain ⟨u162, h⟩ := h
      obtain ⟨u163, h⟩ := h
      obtain ⟨u164, h⟩ := h

      obtain ⟨⟨hbad, hB9', X', m1, m2, P', s', cs', hP'⟩, rfl⟩ := h
      have HP := Lib.hid hP'
      have HB9' := Lib.hid hB9'
      obtain ⟨ra, rb, hcs⟩ := rnv_agg hP'.rr
      injection hcs with hcs
      subst hcs
      have k91 := cell_regrown (show w'.cell? ⟨b9, 1, none⟩ = some (.int .i64 wv) from hB9'.cell 1)
      have k93 := cell_regrown (show w'.cell? ⟨b9, 3, none⟩ = some (.slice xA xn xc) from hB9'.cell 3)
      have k70 := cell_regrown (show w'.cell? ⟨b7, 0, none⟩ = some (.int .i64 p) from hP'.B7.cell 0)
      have k71 := cell_regrown (show w'.cell? ⟨b7, 1, none⟩ = some (.slice ra.A ra.n ra.c) from hP'.B7.cell 1)
      have k72 := cell_regrown (show w'.cell? ⟨b7, 2, none⟩ = some (.slice ra.B ra.m ra.d) from hP'.B7.cell 2)
      have k73 := cell_regrown (show w'.cell? ⟨b7, 3, none⟩ = some (.slice rb.A rb.n rb.c) from hP'.B7.cell 3)
      have k74 := cell_regrown (show w'.cell? ⟨b7, 4, none⟩ = some (.slice rb.B rb.m rb.d) from hP'.B7.cell 4)
      have hR' := hP'.new.rd HAG.out.rd
      obtain ⟨q, hq⟩ : ∃ q, q = mLost s' wv xs := ⟨_, rfl⟩
      have cN := calls_regrown (w := w') (v := .int .i64 bad) (f := 22) (args := #[errV bad]) (fun W hN => (num_any bad hbad W).mono fun e w h => ⟨h.1, by rw [← h.2]; exact New.refl _⟩)
      have cL := calls_regrown (w := w') (v := .int .i64 q) (f := 23) (args := #[.pointer (some ⟨g, 0, none⟩), .int .i64 wv, .slice xA xn xc]) (fun W hN => (n_lost (hP'.nr.new hN) wv xA xn xc xs (hN.rd hR') HAG.out.by_ (by have := HA2.out; omega)).mono fun e w h => ⟨by rw [h.1, hq], h.2⟩)
      have cR := calls_regrown (w := w') (v := .int .i64 q) (f := 24) (args := #[.agg #[.int .i64 p, .slice ra.A ra.n ra.c, .slice ra.B ra.m ra.d, .slice rb.A rb.n rb.c, .slice rb.B rb.m rb.d], .int .i64 wv, .slice xA xn xc]) (fun W hN => (r_lost (hP'.rr.new hN) wv xA xn xc xs (by omega) (hN.rd hR') HAG.out.by_).mono fun e w h => ⟨by rw [h.1, hq], h.2⟩)
      clear hq hR' hB9' hP'
      go_wp2_with fail
      refine wp_region_quiet_below (by kernel_rfl) (by kernel_rfl) ?_
      repeat (quiet_step (first | exact cN _ _ | exact cL _ _ | exact cR _ _))
      refine wpQuiet_nil ?_
      intro _ hw'
      obtain ⟨⟨dq, osq⟩, hw''⟩ := hw'
      have HNq : Hid (New w' (grow (redrawn w' dq) osq)) := Lib.hid (below_regrown w' dq osq)
      subst hw''
      generalize grow (redrawn w' dq) osq = wq at HNq ⊢
      clear k91 k93 k70 k71 k72 k73 k74 cN cL cR
      go_wp2_with fail
      unfold PW Pmu
      refine ⟨⟨_, _, _, _, _, _, _, _, _, _, _, _, _, _, _, _, _, _, _, _, _, _, _, _, _, _, _, _, _, _, _, _, _, _, _, _, _, _, _, _, _, _, _, _, _, _, _, _, _, _, _, _, _, _, _, _, _, _, _, _, _, _, _, _, _, _, _, _, _, _, _, _, _, _, _, _, _, _, _, _, _, _, _, _, _, _, _, _, _, _, _, _, _, _, _, _, _, _, _, _, _, _, _, _, _, _, _, _, _, _, _, _, _, _, _, _, _, _, _, _, _, _, _, _, _, _, _, _, _, _, k + 1, ⟨by omega, X', m1, m2, P', s', _, by rw [show 2 * (k + 1) = 2 * k + 2 by omega]; exact HP.out.keep HNq.out⟩, rfl⟩, by simp [intOf]; omega⟩
  · as_aux_lemma =>
    obtain rfl : k = n := by omega
    go_wp2_with fail
    exact HE.out _ _ _ _ _ _ _ _ _ _ _ _ _ _ _ _ _ _ _ _ _ _ _ _ _ _ _ _ _ _ _ _ _ _ _ _ _ _ _ _ _ _ _ _ _ _ _ _ _ _ _ _ _ _ _ _ _ _ _ _ _ _ _ _ _ _ _ _ _ _ _ _ _ _ _ _ _ _ _ _ _ _ _ _ _ _ _ _ _ _ _ _ _ _ _ _ _ _ _ _ _ _ _ _ _ _ _ _ _ _ _ _ _ _ _ _ _ _ _ _ _ _ _ _ _ _ _ _ _ _ _ ⟨X, l1, l2, P, s, cs, HF.out⟩
set_option maxRecDepth 100000 in
theorem p_loop {x2 x3 x8 x18 x19 x20 x21 x22 x23 x24 x25 x26 x27 x28 x29 x30 x31 x32 x33 x34 x35 x36 x37 x38 x39 x40 x41 x42 x165 x166 x167 x168 x169 x170 x171 x172 x173 x174 x175 x176 x177 x178 x179 x180 x181 x182 x183 x184 x185 x186 x187 x188 x189 x190 x191 x192 x193 x194 : Value} {w : World} {base g b7 : Nat} {p : Int} {A : Option Addr} {n c : Nat} (L : List Ac) (hL : L.length = n) (hR : Rd (fun b => b < w.heap.size) w 4 A n (L.flatMap Ac.cells)) (hg : ∀ a ∈ L, a.Good w) (h6 : n ≤ 600) (h2 : ∀ a ∈ L, a.x.n ≤ 200) (hp0 : 0 ≤ p) (hp1 : p ≤ 64) {Q0 : Exit → Act → World → Prop}
    {u4 u6 u9 u10 u11 u12 u13 u14 u15 u16 u17 u46 u47 u48 u49 u50 u51 u52 u53 u54 u55 u56 u57 u58 u59 u60 u61 u62 u63 u64 u65 u66 u67 u68 u69 u70 u71 u72 u73 u74 u75 u76 u77 u78 u79 u80 u81 u82 u83 u84 u85 u86 u87 u88 u89 u90 u91 u92 u93 u94 u95 u96 u97 u98 u99 u100 u101 u102 u103 u104 u105 u106 u107 u108 u109 u110 u111 u112 u113 u114 u115 u116 u117 u118 u119 u120 u121 u122 u123 u124 u125 u126 u127 u128 u129 u130 u131 u132 u133 u134 u135 u136 u137 u138 u139 u140 u141 u142 u143 u144 u145 u146 u147 u148 u149 u150 u151 u152 u153 u154 u155 u156 u157 u158 u159 u160 u161 u162 u163 u164 : Value} {wr : World} (h0 : PL w base g b7 p 0 wr) (hexit : ∀ (u4 u6 u9 u10 u11 u12 u13 u14 u15 u16 u17 u46 u47 u48 u49 u50 u51 u52 u53 u54 u55 u56 u57 u58 u59 u60 u61 u62 u63 u64 u65 u66 u67 u68 u69 u70 u71 u72 u73 u74 u75 u76 u77 u78 u79 u80 u81 u82 u83 u84 u85 u86 u87 u88 u89 u90 u91 u92 u93 u94 u95 u96 u97 u98 u99 u100 u101 u102 u103 u104 u105 u106 u107 u108 u109 u110 u111 u112 u113 u114 u115 u116 u117 u118 u119 u120 u121 u122 u123 u124 u125 u126 u127 u128 u129 u130 u131 u132 u133 u134 u135 u136 u137 u138 u139 u140 u141 u142 u143 u144 u145 u146 u147 u148 u149 u150 u151 u152 u153 u154 u155 u156 u157 u158 u159 u160 u161 u162 u163 u164 : Value) (wr : World), PL w base g b7 p n wr → Q0 (.exit 0) ⟨#[.int .i64 p, .slice A n c, x2, x3, u4, .pointer (some ⟨g, 0, none⟩), u6, .pointer (some ⟨b7, 0, none⟩), x8, u9, u10, u11, u12, u13, u14, u15, u16, u17, x18, x19, x20, x21, x22, x23, x24, x25, x26, x27, x28, x29, x30, x31, x32, x33, x34, x35, x36, x37, x38, x39, x40, x41, x42, .slice A n c, .int .i64 n, .int .i64 n, u46, u47, u48, u49, u50, u51, u52, u53, u54, u55, u56, u57, u58, u59, u60, u61, u62, u63, u64, u65, u66, u67, u68, u69, u70, u71, u72, u73, u74, u75, u76, u77, u78, u79, u80, u81, u82, u83, u84, u85, u86, u87, u88, u89, u90, u91, u92, u93, u94, u95, u96, u97, u98, u99, u100, u101, u102, u103, u104, u105, u106, u107, u108, u109, u110, u111, u112, u113, u114, u115, u116, u117, u118, u119, u120, u121, u122, u123, u124, u125, u126, u127, u128, u129, u130, u131, u132, u133, u134, u135, u136, u137, u138, u139, u140, u141, u142, u143, u144, u145, u146, u147, u148, u149, u150, u151, u152, u153, u154, u155, u156, u157, u158, u159, u160, u161, u162, u163, u164, x165, x166, x167, x168, x169, x170, x171, x172, x173, x174, x175, x176, x177, x178, x179, x180, x181, x182, x183, x184, x185, x186, x187, x188, x189, x190, x191, x192, x193, x194], []⟩ wr) : (Code.loop plp).wp Try.prog Q0 ⟨#[.int .i64 p, .slice A n c, x2, x3, u4, .pointer (some ⟨g, 0, none⟩), u6, .pointer (some ⟨b7, 0, none⟩), x8, u9, u10, u11, u12, u13, u14, u15, u16, u17, x18, x19, x20, x21, x22, x23, x24, x25, x26, x27, x28, x29, x30, x31, x32, x33, x34, x35, x36, x37, x38, x39, x40, x41, x42, .slice A n c, .int .i64 n, .int .i64 0, u46, u47, u48, u49, u50, u51, u52, u53, u54, u55, u56, u57, u58, u59, u60, u61, u62, u63, u64, u65, u66, u67, u68, u69, u70, u71, u72, u73, u74, u75, u76, u77, u78, u79, u80, u81, u82, u83, u84, u85, u86, u87, u88, u89, u90, u91, u92, u93, u94, u95, u96, u97, u98, u99, u100, u101, u102, u103, u104, u105, u106, u107, u108, u109, u110, u111, u112, u113, u114, u115, u116, u117, u118, u119, u120, u121, u122, u123, u124, u125, u126, u127, u128, u129, u130, u131, u132, u133, u134, u135, u136, u137, u138, u139, u140, u141, u142, u143, u144, u145, u146, u147, u148, u149, u150, u151, u152, u153, u154, u155, u156, u157, u158, u159, u160, u161, u162, u163, u164, x165, x166, x167, x168, x169, x170, x171, x172, x173, x174, x175, x176, x177, x178, x179, x180, x181, x182, x183, x184, x185, x186, x187, x188, x189, x190, x191, x192, x193, x194], []⟩ wr := by
  refine wp_loop (PW x2 x3 x8 x18 x19 x20 x21 x22 x23 x24 x25 x26 x27 x28 x29 x30 x31 x32 x33 x34 x35 x36 x37 x38 x39 x40 x41 x42 x165 x166 x167 x168 x169 x170 x171 x172 x173 x174 x175 x176 x177 x178 x179 x180 x181 x182 x183 x184 x185 x186 x187 x188 x189 x190 x191 x192 x193 x194 w base g b7 p A n c) (Pmu n) ?_ (fun a w'' hI => p_round L hL hR hg h6 h2 hp0 hp1 hexit a w'' hI)
  unfold PW
  exact ⟨u4, u6, u9, u10, u11, u12, u13, u14, u15, u16, u17, u46, u47, u48, u49, u50, u51, u52, u53, u54, u55, u56, u57, u58, u59, u60, u61, u62, u63, u64, u65, u66, u67, u68, u69, u70, u71, u72, u73, u74, u75, u76, u77, u78, u79, u80, u81, u82, u83, u84, u85, u86, u87, u88, u89, u90, u91, u92, u93, u94, u95, u96, u97, u98, u99, u100, u101, u102, u103, u104, u105, u106, u107, u108, u109, u110, u111, u112, u113, u114, u115, u116, u117, u118, u119, u120, u121, u122, u123, u124, u125, u126, u127, u128, u129, u130, u131, u132, u133, u134, u135, u136, u137, u138, u139, u140, u141, u142, u143, u144, u145, u146, u147, u148, u149, u150, u151, u152, u153, u154, u155, u156, u157, u158, u159, u160, u161, u162, u163, u164, 0, ⟨Nat.zero_le _, h0⟩, rfl⟩
end Go.Proofs.Ytajoahhjgloefaa
