/- Texts of one proof. No condition but each one's own. -/
import Derived.Test.YtfchcdbfalgdlaaGreatDoorSweepPlaysM6
import Derived.Test.YtfchcdbfalgdlaaGreatDoorSweepPlaysM7
set_option maxHeartbeats 4000000
set_option maxRecDepth 100000
set_option linter.unusedVariables false
set_option linter.unusedSimpArgs false
namespace Go.Proofs.YtfchcdbfalgdlaaGreatDoor
open _root_.Go.Proofs.Tryz
open Go.RowKit Go.Sort
theorem pY{p q:Nat->Prop}(A:Option Addr)(c:Nat)(tag:List Int)(gen:Nat)(B:Option Addr)(n d:Nat)(b:List Int)(w:World)(hL:cX 3 1 w)(hT:Rd p w 1 A 16 (an tag))(b1:ba tag)(hR:Rd q w 1 B n (an b))(hb:ba b)(hg:gen<4294967296)(hn:n<=400000000):
    Calls prog 124 #[.slice A 16 c,.int .u32 gen,.slice B n d] w λe w'=>(∃A c,e=.returned (.slice A 16 c)/\w'.ownsRow w.heap.size 5 1 (.slice A 16 c) 16 (an (fT tag gen b)))/\aa w w':=by
 have HL:=Ld hL;have HR:=Ld hR;have HT:=Ld hT;have HB:=Ld hb;have c1:=Ld b1;have d':Hid (tag.length=16):=Ld (by have:=hT.1;rw[ak]at this;omega);have HX:Hid (b.length=n):=Ld (by have:=hR.1;rw[ak]at this;omega);have l:Hid (fT tag gen b=(kD (tag++bj 4 gen++b)).take 16):=Ld rfl;obtain⟨TL,b0⟩:=nM (fT tag gen b);rw[<-b0]at l⊢;have g3:(gen:Int)<4294967296:=by omega
 have O:=Ld (λW=>fw gen 4 W (by omega) (by omega));clear hL hR hb hT b1 b0 hg
 go_enter func124,ntmps124
 go_wp2_with (refine cE 11 rfl ?_;refine av kB _ rfl (.tmp 9) (.tmp 10) rfl w.heap.size (.slice (some ⟨w.heap.size,0,none⟩) 0 0) 0 [] rfl (dQ (ac.new w 5 #[]) (Nat.le_refl _)) A 16 c (an tag) rfl (aa.rd (aa.al (aa.refl w) _) HT.out) (aR tag) (by unfold maxLen;omega) (by omega) (by simp) ?_;intro A1 d1 w1 C U c4;rw[Nat.zero_add];rw[Nat.zero_add,List.nil_append]at C;have P:=Ld C;have M:Hid (aa w w1):=Ld ((aa.al (aa.refl w) _).fr U (by intro k G;simp[Value.ownBlock]at G;omega));clear C U c4)
 refine(O.out w1).mono ?_;rintro e w2 ⟨rfl,D,m⟩;have c9:=Ld D;have b3:=Ld m;have R:=Ld (aa.own m P.out);have L:Hid ((w2.ownsRow w1.heap.size 5 1 (.slice (some ⟨w1.heap.size,0,none⟩) 4 4) 4 (an (bj 4 gen)))/\w.heap.size<=w2.heap.size):=Ld ⟨D,by have:=M.out.size;have:=m.size;omega⟩;clear D m
 go_wp2_with (first
  |(refine cE 15 rfl ?_;refine av kB _ rfl (.tmp 11) (.tmp 14) rfl w.heap.size (.slice A1 16 d1) 16 (an tag) rfl R.out (some ⟨w1.heap.size,0,none⟩) 4 4 (an (bj 4 gen)) rfl (Rd.own L.out.1 rfl) (aR _) (by unfold maxLen;omega) (by omega) L.out.2 ?_;intro A2 d2 w3 Z y c5;have c8:=Ld y;have S:=Ld Z;have u:Hid (aa w w3):=Ld ((M.out.tr b3.out).fr y (λk G=>(am P.out k G).1));clear Z y c5)
  |(refine cE 17 rfl ?_;refine av kB _ rfl (.tmp 15) (.tmp 16) rfl w.heap.size (.slice A2 20 d2) 20 (an tag++an (bj 4 gen)) rfl S.out B n d (an b) rfl (u.out.rd HR.out) (aR _) (by unfold maxLen;omega) (by omega) u.out.size ?_;intro A4 d4 w4 b' V c6;have c':=Ld b';have N:Hid (aa w w4):=Ld (u.out.fr V (λk G=>(am S.out k G).1));clear b' V c6))
 have HY:Hid (ba (tag++bj 4 gen++b)):=Ld (by
  intro x t;simp only[List.mem_append]at t;rcases t with(t|t)|t
  ·exact c1.out x t
  ·exact eQ _ _ x t
  ·exact HB.out x t)
 have T:Hid (Rd (λk=>(Value.slice A4 (20+n) d4).ownBlock=some k) w4 1 A4 (20+n) (an (tag++bj 4 gen++b))):=Ld (by
  have h:=Rd.own c'.out rfl;have e:an (tag++bj 4 gen++b)=an tag++an (bj 4 gen)++an b:=by simp[an]
  rw[e]
  exact h)
 refine(vl A4 (20+n) d4 (tag++bj 4 gen++b) w4 (HL.out.new N.out) T.out HY.out (by omega)).mono ?_;rintro e w5 ⟨rfl,Y⟩;have b7:Hid (aa w w5):=Ld (N.out.tr Y);obtain⟨H,z⟩:=nM (kD (tag++bj 4 gen++b));rw[<-z]at l⊢;have g:H.length=32:=by rw[z];exact iL _
 have f:=Ld g;have r:(ag H).size=32:=by rw[aq,g]
 have f':=Ld r;clear z g r Y T HY
 go_upto_region 3 with(refine cE 8 rfl ?_;refine aH (s:=H) rfl rfl rfl _ _ rfl pB rfl rfl rfl f.out ?_)
 obtain⟨I,o⟩:=nM (w5.alloc (.cells (ag H) 211):World);obtain⟨b8,F⟩:=nM (w5.heap.size);have J:Hid (ac I b8 211 (ag H)):=Ld (by rw[o,F];exact ac.new _ _ _);have i:Hid (aa w I):=Ld (by rw[o];exact aa.al b7.out _);rw[<-o,<-F];clear o F
 have c3:Hid (∀W,aa I W->Rd (λ_=>True) W 1 (some ⟨b8,0,none⟩) 16 (an TL)):=Ld λW hN=>by
  refine⟨by rw[ak,l.out,List.length_take,f.out];rfl,λ_=>⟨_,rfl,trivial,(hN.blk J.out).lt,λj v hj=>?_⟩⟩;rw[l.out]at hj;have:=sd H (n:=16) (by rw[f.out];decide) (hN.blk J.out) j v hj;rw[Nat.zero_add]at this;rw[gM];exact this
 go_wp2_with (refine cE 22 rfl ?_;refine av kB _ rfl (.tmp 20) (.tmp 21) rfl w.heap.size (.slice (some ⟨I.heap.size,0,none⟩) 0 0) 0 [] rfl (dQ (ac.new I 5 #[]) i.out.size) (some ⟨b8,0,none⟩) 16 32 (an TL) rfl (c3.out _ (aa.al (aa.refl I) _)) (aR TL) (by unfold maxLen;omega) (by omega) (aa.al i.out _).size ?_;intro A7 d7 w7 E X c7;rw[Nat.zero_add];rw[Nat.zero_add,List.nil_append]at E;have c0:=Ld E;have b9:Hid (aa w w7):=Ld ((aa.al i.out _).fr X (by intro k G;simp[Value.ownBlock]at G;have:=i.out.size;omega));clear E X c7)
 go_ret;exact⟨⟨A7,d7,rfl,c0.out⟩,b9.out⟩
end Go.Proofs.YtfchcdbfalgdlaaGreatDoor
