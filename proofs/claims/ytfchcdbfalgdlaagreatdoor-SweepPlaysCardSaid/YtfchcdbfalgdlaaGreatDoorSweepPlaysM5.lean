/- Texts of one proof. No condition but each one's own. -/
import Derived.Test.YtfchcdbfalgdlaaGreatDoorSweepPlaysM4
set_option maxHeartbeats 4000000
set_option maxRecDepth 100000
set_option linter.unusedVariables false
set_option linter.unusedSimpArgs false
namespace Go.Proofs.YtfchcdbfalgdlaaGreatDoor
open _root_.Go.Proofs.Tryz
open Go.RowKit Go.Maps
def DP.forget(p:DP):DP:={p with fresh:=λ_=>none,order:=[]}
theorem DP.Ok.forget{p:DP}(h:p.Ok):p.forget.Ok:=⟨h.s1,h.s2,h.sureR,by simp[DP.forget],by simp[DP.forget],by simp[DP.forget],h.fz⟩
theorem rq {w:World} {base g bs n:Nat} {v:Value} {p:DP} (h:Dk w base g bs n v p):Calls prog 65 #[.pointer (some ⟨g,0,none⟩)] w λe w'=>e= .returned (.tuple #[])/\Dk w' base g bs n (.slice none 0 0) p.forget/\Fr (λk=>k=g\/k=n) w w':=by
 have H:=Ld h;have c2:=h.blk.cell 2;clear h
 go_enter func65,ntmps65
 go_wp2_with ((with_reducible refine eC ⟨none,.call _,_,_,_,_⟩ ?_);refine qQ H.out.mw underlying118 rfl (.tmp 5) rfl rfl ?_;intro q j d;have c:=H.out.blk.fr d H.out.gf;have d3:=c.cell 3;have f3:=c.frozen 3;have m:=Ld j;have i:=Ld d;have l:=Ld c;clear j d c)
 go_end0
 have f:Fr (λk=>k=g) q (q.setCell ⟨g,3,none⟩ (.slice none 0 0)):=(Fr.refl _ _).setCell (S:=λk=>k=g) (p:=⟨g,3,none⟩) (λ_=>rfl) _;refine⟨rfl,⟨l.out.set 3 _,(H.out.ms.fr i.out H.out.ne).fr f (λe=>H.out.gs e.symm),?_,World.ownsRow_nil _ _ _ _,H.out.ne,H.out.lo,H.out.ok.forget⟩,(i.out.mono λb _ o=>.inr o).trans (f.mono λb _ o=>.inl o)⟩;have:=(m.out.fr f (λe=>H.out.gf e.symm)).mono (show 0<=p.size by omega);rw[<-tn]at this;exact this
theorem Bi(j bs nd y:Nat)(fd fs:Lit->Option Value)(w:World)(hd:aJ w prog 3 j nd fd)(R:aJ w prog 3 bs y fs)(c0:j≠bs)(n:∀kl v,fs kl=some v->∃s,v=.agg (ag s)/\aS s)(b':nd+y<=maxLen):
    Calls prog 110 #[.map (some j),.map (some bs)] w λe w'=>e=.returned (.tuple #[])/\aJ w' prog 3 j (nd+y) (Gy fs fd)/\Fr (λk=>k=j) w w':=by
 obtain⟨X,hd,H⟩:=hd;obtain⟨z,R,I⟩:=R;have c6:=hd.lt;have c7:=R.lt;have d':=R.size_le;have Z:=Ld H;have B:=Ld I;have E:=Ld n;clear H I n
 go_enter func110,ntmps110
 go_wp2_with (at_range;refine wpList_range_own _ rfl _ 118 rfl 3 68 kI underlying118 Rv bs y _ rfl R ?_;intro w0 N J c1)
 go_frame
 go_loopw [8] (λ_ wr => ∃ (left : Lit -> Bool) (jC : Nat) (b : DataW Value), wr.ranges prog 3 Rv bs w.heap.size y z left jC /\ jC <= Maps.size z /\
     wr.ownsMap prog 3 Rv j (nd+(Maps.size z-jC)) b/\Merged b X z left/\Hid (Fr (λk=>k=j) w wr))
  (λ_ wr=>wr.rangeLeft bs w.heap.size)
 case atStart=>
  exact⟨_,_,X,N,Nat.le_refl _,(hd.kept J (by simp)).mono (by omega),merged_start X z,Ld ((Fr.refl _ w).grown J (λk _ h=>by cases h))⟩
 case round=>
  obtain⟨left,jC,b,M,c8,g,hM,C⟩:=hrel
  go_wp2_with (at_next;refine wpList_next_ranges _ rfl _ rfl 3 kI Rv id id (λkey _ _=>⟨key,rfl⟩) (λv _ _=>⟨v,rfl⟩) bs w.heap.size y _ _ _ rfl M ?_ ?_)
  ·intro b7 b9
   go_wp2_with fail;go_end0
   subst b7;exact⟨rfl,⟨b,g.mono (by omega),wL hM b9 Z.out B.out⟩,C.out⟩
  ·intro x c kl yd yp U Gp l c9 S p O c' q c3 b8;have T:yd= .held c/\yp= []:=by unfold Rv at S;injection S with S;injection S with h1 h2;exact ⟨h1.symm,h2.symm⟩
   obtain⟨s,d,o⟩:=E.out kl c (by
    rw[B.out kl,Maps.has_true_of_atKey p,if_pos rfl,p,T.1];rfl)
   rw[d]at b8;have r:keyOf prog 3 x=some kl:=l;obtain⟨V,i⟩:=nM (U.alloc (.cells (ag s) 68):World);have b3:aa U V:=by rw[i];exact aa.al (aa.refl _) _
   have G:ac V U.heap.size 68 (ag s):=by rw[i];exact ac.new _ _ _
   have f:U.grownBy V none:=by rw[i];exact World.grownBy_alloc _ _ _
   have t:=(g.kept q (λe=>by have:=Option.some.inj e;omega)).kept f (by simp);have P:=O.kept f (by simp) (by simp);have c4:Rv (.agg (ag s))=some (yd,yp):=by rw[T.1,T.2,d];rfl
   have b1:Hid (U.alloc (.cells (ag s) 68)=V):=Ld i.symm;have Y:=Ld G;have F:=Ld o;have b0:=Ld q;have D:=Ld f;have HY:=Ld T;have c5:=Ld d;clear i G o b3 c1 c3 q f T S;subst d
   go_wp2_with (first
    |(refine cE 5 rfl ?_;refine dX rfl rfl bO ?_)
    |((with_reducible refine eC ⟨none,.store 68 _ _,_,_,_,_⟩ ?_);refine mU rfl (.tmp 5) (.tmp 12) rfl rfl bh.1 F.out.1 rfl rfl ?_;rw[b1.out])
    |(refine cE 15 rfl ?_;refine fo (s:=s) rfl _ rfl underlying68 rfl rfl Y.out F.out.1 ?_)
    |(at_mapUpdate;refine wpList_mapUpdate_own _ rfl _ _ _ 118 rfl 3 68 kI underlying118 Rv j _ _ rfl t (by omega) _ _ _ rfl rfl r yd yp c4 ?_;intro w3 u L;go_frame))
   have m:=P.kept L (λe=>c0 (Option.some.inj e).symm) (λe=>by have:=Option.some.inj e;omega);go_roundw
   case rel=>
    refine⟨_,Gp,_,m,by omega,u.mono (by omega),?_,Ld (((C.out.grown b0.out (λk hk e=>by cases e;exact absurd hk (Nat.lt_irrefl _))).grown D.out (λk _ e=>by cases e)).grown L (λk _ e=>by cases e;rfl))⟩;exact merged_step hM g.isMap (kI.key l) p
   case measure=>rw[m.left_eq,M.left_eq];exact c'
theorem Ao {w:World} {base g bs b:Nat} {v:Value} {p:DP} (h:Dk w base g bs b v p) (hd:p.down=true):Calls prog 57 #[.pointer (some ⟨g,0,none⟩)] w λe w'=>e= .returned (.iface 38 (.int .i64 14))/\w=w':=by
 have c:w.cell? ⟨g,5,none⟩=some (.bool true):=by rw[h.blk.cell 5];simp[hd]
 clear h hd
 go_enter func57,ntmps57
 go_wp2_with fail;go_ret;exact⟨rfl,rfl⟩
theorem Eu {w:World} {base g bs f:Nat} {v:Value} {p:DP} (h:Dk w base g bs f v p) (hd:p.down=false):Calls prog 57 #[.pointer (some ⟨g,0,none⟩)] w λe w'=>e= .returned .nilIface/\Dk w' base g bs f (.slice none 0 0) p.sync/\Fr (λk=>k=g\/k=bs\/k=f) w w':=by
 have H:=Ld h;have F:w.cell? ⟨g,5,none⟩=some (.bool false):=by rw[h.blk.cell 5];simp[hd]
 have E:w.cell? ⟨g,1,none⟩=some (.map (some bs)):=h.blk.cell 1;have c2:w.cell? ⟨g,2,none⟩=some (.map (some f)):=h.blk.cell 2;have c:p.size+p.size<=maxLen:=by have:=h.ok.s2;unfold maxLen;omega
 have C:=Ld c;clear h hd c
 go_enter func57,ntmps57
 go_wp2_with fail
 go_region_held3 (λw'=>w'.cell? ⟨g,1,none⟩=some (.map (some bs))/\w'.cell? ⟨g,2,none⟩=some (.map (some f)))
  (first|exact u|go_keep)
  ((go_at_call 110;refine(Bi bs f p.size p.size _ _ _ (H.out.ms.fr (S:=ic) ((Fr.refl _ w).drew) (λx=>x)) (H.out.mw.fr (S:=ic) ((Fr.refl _ w).drew) (λx=>x)) H.out.ne (λkl v D=>BG H.out.ok.freshR D) C.out).mono ?_;rintro e B ⟨rfl,o,j⟩;have d:=H.out.blk.drew.fr j H.out.gs;have u:B.cell? ⟨g,1,none⟩=some (.map (some bs))/\B.cell? ⟨g,2,none⟩=some (.map (some f)):=⟨d.cell 1,d.cell 2⟩;have t:=Ld o;have i:=Ld j.ofDrew;have q:=Ld d;clear o j d))
 go_wp2_with fail
 have l:Dk B base g bs f v {p with sure:=p.sync.sure}:=by
  refine⟨q.out,?_,H.out.mw.fr i.out (λe=>H.out.ne e.symm),bg H.out.own i.out (λk z=>H.out.vs k z),H.out.ne,H.out.lo,⟨H.out.ok.s1,H.out.ok.s2,H.out.ok.sync.sureR,H.out.ok.freshR,H.out.ok.nod,H.out.ok.ord,H.out.ok.fz⟩⟩;have:=t.out;rw[Gv]at this;exact this.tight kI _ λkl z=>tm H.out.ok.sync.sureR kl z
 refine(rq l).mono ?_;rintro e G ⟨rfl,m,n⟩;have r:=Ld m;have s:=Ld n;clear m n l
 go_wp2_with fail;go_ret;exact⟨rfl,r.out,(i.out.mono λb _ y=>.inr (.inl y)).trans (s.out.mono λb _ y=>y.imp id .inr)⟩
def jV(xs:List Bool):List Value:=xs.map Value.bool
theorem nb(xs:List Bool):(jV xs).length=xs.length:=by simp[jV]
theorem yJ{p:Nat->Prop}{w:World}{A:Option Addr}{n:Nat}{xs:List Bool}(h:Rd p w 1 A n (jV xs)){i:Nat}(hi:i<n):
    ∃g o,A=some ⟨g,o,none⟩/\g<w.heap.size/\p g/\w.cell? ⟨g,o+i,none⟩=some (.bool (xs.getD i false)):=by
 obtain⟨g,o,b,f,d,c⟩:=h.out (by omega) (by omega);refine⟨g,o,b,d,f,c i _ ?_⟩;have hl:i<xs.length:=by have:=h.1;rw[nb]at this;omega
 simp[jV,List.getD,hl]
theorem Cf{p:Nat->Prop}{w:World}{A:Option Addr}{n:Nat}{xs:List Int}(h:Rd p w 1 A n (ji xs)){i:Nat}(hi:i<n):
    ∃g o,A=some ⟨g,o,none⟩/\g<w.heap.size/\p g/\w.cell? ⟨g,o+i,none⟩=some (.int .i64 (xs.getD i 0)):=by
 obtain⟨g,o,b,f,d,c⟩:=h.out (by omega) (by omega);refine⟨g,o,b,d,f,c i _ ?_⟩;have hl:i<xs.length:=by have:=h.1;rw[Br]at this;omega
 simp[ji,List.getD,hl]
def DP.part(p:DP)(keep:List Bool)(j:Nat):DP:={p with sure:=cutS p keep j}
theorem DP.Ok.part{p:DP}(h:p.Ok)(keep:List Bool)(j:Nat):(p.part keep j).Ok:=⟨h.s1,h.s2,ow h keep j,h.freshR,h.nod,h.ord,h.fz⟩
theorem rN{p:DP}{keep:List Bool}{j:Nat}(h:keep.getD j false=false):p.part keep (j+1)=p.part keep j:=by
 unfold DP.part
 congr 1
 simp only[cutS,h];rfl
theorem zQ{w w':World}{base g bs f n:Nat}{v:Value}{p:DP}{keep:List Bool}{j:Nat}{s:List Int}(b:Dk w base g bs f v (p.part keep j))(m:j<p.order.length)(c:keep.getD j false=true)(l:p.fresh (p.order.getD j 0)=some s)
    (i:aJ w' prog 3 bs n (ly (mf (cutS p keep j)) (.int .i64 (p.order.getD j 0)) (some (.agg (ag s))))) (hF:Fr (λk=>k=bs) w w') (d:p.Ok):Dk w' base g bs f v (p.part keep (j+1)):=by
 have e:cutS p keep (j+1)=tZ (cutS p keep j) (p.order.getD j 0) (some s):=by simp only[cutS,c,if_true,l]
 refine⟨b.blk.fr hF b.gs,?_,b.mw.fr hF (λe=>b.ne e.symm),bg b.own hF (λk c=>b.vs k c),b.ne,b.lo,d.part keep (j+1)⟩
 have h2:ly (mf (cutS p keep j)) (.int .i64 (p.order.getD j 0)) (some (.agg (ag s)))=mf (p.part keep (j+1)).sure:=by
  show _=mf (cutS p keep (j+1));rw[e];exact BH _ _ (some s)
 rw[h2]at i;exact i.tight kI _ λkl c=>tm (d.part keep (j+1)).sureR kl c
theorem Fi{w:World}{base g bs t:Nat}{v:Value}{p:DP}(h:Dk w base g bs t v p){q:Nat->Prop}(A:Option Addr)(n c:Nat)(keep:List Bool)(N:Rd q w 1 A n (jV keep))(hn:n<=maxLen)(Y:∀k,q k->k≠bs):
    Calls prog 25 #[.pointer (some ⟨g,0,none⟩),.slice A n c] w λe w'=>e=.returned (.tuple #[])/\Dk w' base g bs t (.slice none 0 0) (p.cut keep)/\Fr (λk=>k=g\/k=bs\/k=t) w w':=by
 have H:=Ld h;have HR:=Ld N;have HQ:=Ld Y;have F:keep.length=n:=by have:=N.1;rw[nb]at this;omega
 have J:=Ld F;unfold maxLen at hn;obtain⟨T,U,rfl,b8,b1,-,-⟩:=eT h.own;have HO:=Ld (Rd.own h.own rfl);have z:Hid (p.order.length<=16384):=Ld (by have:=h.ok.len;have:=h.ok.s2;omega);have M:w.cell? ⟨g,3,none⟩=some (.slice T p.order.length U):=h.blk.cell 3;have hl:=z.out;clear h N Y F
 go_enter func25,ntmps25
 go_wp2_with fail;go_loopw [13] (λi wr=>∃(j:Nat),j<=p.order.length/\i=.int .i64 j/\Hid (Dk wr base g bs t (.slice T p.order.length U) (p.part keep j))/\Hid (Fr (λk=>k=bs) w wr)) (λi _=>p.order.length-(intOf i).toNat)
 case atStart=>exact⟨0,Nat.zero_le _,rfl,Ld H.out,Ld (Fr.refl _ _)⟩
 case round=>
  obtain⟨j,hj,rfl,m,r⟩:=hrel
  by_cases o:j<p.order.length
  ·as_aux_lemma=>
   obtain⟨gA,oA,rfl,-,b3,V⟩:=Cf (HO.out.fr r.out (λk hk e=>H.out.vs k hk e)) o
   by_cases P:j<n
   ·obtain⟨gK,oK,rfl,-,-,X⟩:=yJ (HR.out.fr r.out HQ.out) P
    cases l:keep.getD j false with
    |false=>
     rw[l]at X;have u:=Ld l;clear l M
     go_wp2_with fail;go_roundw
     case rel=>exact⟨j+1,by omega,by go_num,Ld (by rw[rN u.out];exact m.out),r⟩
     case measure=>simp[intOf];omega
    |true=>
     rw[l]at X;have u:=Ld l;have O:p.order.getD j 0∈p.order:=by rw[List.getD_eq_getElem?_getD,List.getElem?_eq_getElem o];exact List.getElem_mem _
     have Z:=H.out.ok.inOrd O
     obtain⟨s,R⟩:∃s,p.fresh (p.order.getD j 0)=some s:=by
      cases hf:p.fresh (p.order.getD j 0)with
      |some s=>exact⟨s,rfl⟩
      |none=>exact absurd hf ((H.out.ok.ord _).1 O)
     have d:=Fx Z.1 (by have:=H.out.ok.s2;omega);have HS:=Ld R;have HK:=Ld d;have b0:wr.cell? ⟨gA,oA+j,none⟩=some (.int .i64 (p.order.getD j 0)):=V
     have b7:(Instr.lookup 118 (.map (some t)) (.int .i64 (p.order.getD j 0)) false).run prog wr.drew=.ok (.agg (ag s)) wr.drew:=by
      have:=((m.out.mw.fr (S:=ic) ((Fr.refl _ wr).drew) (λx=>x)).look kI underlying118 (Az _) d).2;rw[this];simp only[DP.part,mf,R,Option.map_some,Option.getD_some]
     have D:aJ wr.drew prog 3 bs p.size (mf (cutS p keep j)):=m.out.ms.fr (S:=ic) ((Fr.refl _ wr).drew) (λx=>x);obtain⟨w5,b',E,C⟩:=D.store kI underlying118 (by have:=H.out.ok.s2;unfold maxLen;omega) d (.agg (ag s));have L:=Ld E;have y:=Ld C;have d1:wr.cell? ⟨g,1,none⟩=some (.map (some bs)):=m.out.blk.cell 1;have d2:wr.cell? ⟨g,2,none⟩=some (.map (some t)):=m.out.blk.cell 2;clear l M O Z R d V D E C;generalize hx:p.order.getD j 0=x at*;have HX:=Ld hx;clear hx
     go_wp2_with fail;go_region
     go_wp2_with fail;go_roundw
     case rel=>
      refine⟨j+1,by omega,by go_num,Ld ?_,Ld (r.out.trans y.out.ofDrew)⟩;subst x;exact zQ m.out o u.out HS.out L.out y.out.ofDrew H.out.ok
     case measure=>simp[intOf];omega
   ·have l:keep.getD j false=false:=by
     have:=J.out;rw[List.getD_eq_getElem?_getD,List.getElem?_eq_none (by omega)];rfl
    have u:=Ld l;clear l M
    go_wp2_with fail;go_roundw
    case rel=>exact⟨j+1,by omega,by go_num,Ld (by rw[rN u.out];exact m.out),r⟩
    case measure=>simp[intOf];omega
  ·obtain rfl:j=p.order.length:=by omega
   go_wp2_with fail;refine(rq m.out).mono ?_;rintro e w2 ⟨rfl,f,B⟩;have f4:=f.blk.frozen 4;have f5:=f.blk.frozen 5;have e4:=f.blk.cell 4;have e5:=f.blk.cell 5;have G:=Ld f;have I:=Ld B;clear f B
   go_wp2_with fail;go_end0
   have hz:=(G.out.setFuse (-1) (by omega)).setDown false;refine⟨rfl,hz,?_⟩;refine(((r.out.mono λb _ l=>.inr (.inl l)).trans (I.out.mono λb _ l=>l.imp id .inr)).setCell (p:=⟨g,4,none⟩) (λ_=>.inl rfl) _).setCell (p:=⟨g,5,none⟩) (λ_=>.inl rfl) _
def dP(n:Int):Value:=if n=0 then .nilIface else .iface 38 (.int .i64 n)
theorem cg:dP 0=.nilIface:=rfl
theorem bK{n:Int}(h:n≠0):dP n=.iface 38 (.int .i64 n):=if_neg h
theorem mC (n:Int) (w:World):Calls prog 34 #[dP n] w λe w'=>e= .returned (.int .i64 n)/\w=w':=by
 by_cases h:n=0
 ·subst h;exact tx w
 ·rw[bK h];exact uK n w (by simp[h])
def DP.within(p:DP)(a:Int):Bool:=decide (0<=a/\a<p.size)
def DP.wcode(p:DP)(a:Int):Int:=if p.within a=true then(if p.fuse=0\/p.down=true then 14 else 0)else 1
def DP.doWrite(p:DP)(a:Int)(s:List Int):DP:=if p.within a=true then(if p.fuse=0\/p.down=true then p.fall else p.write a s)else p
def DP.scode(p:DP):Int:=if p.down=true then 14 else 0
def DP.doSync(p:DP):DP:=if p.down=true then p else p.sync
def DP.rcode(p:DP)(a:Int):Int:=if p.within a=true then 0 else 1
def DP.rget(p:DP)(a:Int):List Int:=if p.within a=true then p.get a else az
theorem DP.doWrite_size(p:DP)(a:Int)(s:List Int):(p.doWrite a s).size=p.size:=by
 unfold DP.doWrite;split
 ·split<;>rfl
 ·rfl
theorem DP.doSync_size(p:DP):p.doSync.size=p.size:=by unfold DP.doSync;split<;>rfl
theorem lw{w:World}{base g bs i:Nat}{v:Value}{p:DP}(h:Dk w base g bs i v p)(a:Int){s:List Int}(m:aS s):
    Calls prog 31 #[.pointer (some ⟨g,0,none⟩),.int .i64 a,.agg (ag s)] w λe w'=>e=.returned (dP (p.wcode a))/\∃f,Dk w' base g bs i f (p.doWrite a s)/\Fr (bW g bs i v) w w'/\∀k,f.ownBlock=some k->base<=k/\(v.ownBlock=some k\/w.heap.size<=k):=by
 unfold DP.wcode DP.doWrite DP.within
 by_cases d:0<=a/\a<p.size
 ·rw[decide_eq_true d]
  by_cases hd:p.fuse=0\/p.down=true
  ·simp only[if_true,if_pos hd];refine(xP h s d.1 d.2 hd).mono ?_;rintro e w' ⟨rfl,h1,h2⟩;exact⟨rfl,v,h1,h2.mono λb _ l=>.inl l,λk c=>⟨(am h1.own k c).1,.inl c⟩⟩
  ·simp only[if_true,if_neg hd]
   have h0:p.down=false:=by
    cases hq:p.down with
    |true=>exact absurd (.inr hq) hd
    |false=>rfl
   refine(CV h d.1 d.2 m h0 (λe=>hd (.inl e))).mono ?_;rintro e w' ⟨rfl,f,h1,h2,j⟩;exact⟨rfl,f,h1,h2,λk c=>⟨(am h1.own k c).1,j k c⟩⟩
 ·rw[decide_eq_false d];simp only[Bool.false_eq_true,if_false];refine(Ay h s d).mono ?_;rintro e w' ⟨rfl,h1⟩;exact⟨rfl,v,h.new h1,h1.toFr _,λk c=>⟨(am h.own k c).1,.inl c⟩⟩
theorem kP{w:World}{base g bs d:Nat}{v:Value}{p:DP}(h:Dk w base g bs d v p):
    Calls prog 57 #[.pointer (some ⟨g,0,none⟩)] w λe w'=>e=.returned (dP p.scode)/\∃f,Dk w' base g bs d f p.doSync/\Fr (bW g bs d v) w w'/\∀k,f.ownBlock=some k->base<=k/\(v.ownBlock=some k\/w.heap.size<=k):=by
 unfold DP.scode DP.doSync
 by_cases hd:p.down=true
 ·simp only[if_pos hd];refine(Ao h hd).mono ?_;rintro e w' ⟨rfl,rfl⟩;exact⟨rfl,v,h,Fr.refl _ _,λk c=>⟨(am h.own k c).1,.inl c⟩⟩
 ·simp only [if_neg hd];refine (Eu h (by simpa using hd)).mono ?_;rintro e w' ⟨rfl,h1,h2⟩;refine ⟨rfl,_,h1,h2.mono λb _ i=> ?_,λk c=>by cases c⟩;rcases i with rfl | rfl | rfl
  ·exact .inl rfl
  ·exact .inr (.inl rfl)
  ·exact .inr (.inr (.inl rfl))
theorem kF{w:World}{base g bs c:Nat}{v:Value}{p:DP}(h:Dk w base g bs c v p)(a:Int):
    Calls prog 91 #[.pointer (some ⟨g,0,none⟩),.int .i64 a] w λe w'=>e=.returned (.tuple #[.agg (ag (p.rget a)),dP (p.rcode a)])/\aa w w':=by
 unfold DP.rcode DP.rget DP.within
 by_cases b:0<=a/\a<p.size
 ·rw[decide_eq_true b];exact Eb h b.1 b.2
 ·rw[decide_eq_false b];exact Cl h b
theorem DP.Ok.rget{p:DP}(h:p.Ok)(a:Int):aS (p.rget a):=by
 unfold DP.rget;split
 ·exact h.get a
 ·exact bh
end Go.Proofs.YtfchcdbfalgdlaaGreatDoor
namespace Go.Proofs.YtfchcdbfalgdlaaGreatDoor
open _root_.Go.Proofs.Tryz
open Go.RowKit
def tO(n:Int):Int:=if 1<=n/\n<=65536 then(n+74)/55 else 0
theorem yS(n:Int):0<=tO n/\tO n<=1193:=by
 unfold tO;split<;>omega
theorem qj{n:Int}(h:¬(1<=n/\n<=65536)):tO n=0:=if_neg h
theorem tP{n:Int}(h1:1<=n)(h2:n<=65536):tO n=(n+74)/55:=if_pos ⟨h1,h2⟩
theorem rT{a b:Int}(h:a=b):Ending.returned (.int .i64 a)=Ending.returned (.int .i64 b):=by rw[h]
theorem iP (n:Int) (w:World):Calls prog 54 #[.int .i64 n] w λe w'=>e= .returned (.int .i64 (tO n))/\w=w':=by
 by_cases h1:n<1
 ·have b:=Ld (qj (n:=n) (by omega))
  go_enter func54,ntmps54
  go_wp2_with fail;go_ret;exact⟨rT (a:=0) b.out.symm,rfl⟩
 ·by_cases h2:65536<n
  ·have b:=Ld (qj (n:=n) (by omega))
   go_enter func54,ntmps54
   go_wp2_with fail;go_ret;exact⟨rT (a:=0) b.out.symm,rfl⟩
  ·have b:=Ld (tP (n:=n) (by omega) (by omega));have c:1<=n:=by omega
   have d:n<=65536:=by omega
   go_enter func54,ntmps54
   go_wp2_with fail;go_ret;exact⟨rT (by rw[b.out];omega),rfl⟩
theorem fS (n:Int) (w:World):Calls prog 86 #[.int .i64 n] w λe w'=>e= .returned (.int .i64 (tO n))/\w=w':=by
 by_cases h1:n<1
 ·have b:=Ld (qj (n:=n) (by omega))
  go_enter func86,ntmps86
  go_wp2_with fail;go_ret;exact⟨rT (a:=0) b.out.symm,rfl⟩
 ·by_cases h2:65536<n
  ·have b:=Ld (qj (n:=n) (by omega))
   go_enter func86,ntmps86
   go_wp2_with fail;go_ret;exact⟨rT (a:=0) b.out.symm,rfl⟩
  ·have b:=Ld (tP (n:=n) (by omega) (by omega));have d:1<=n:=by omega
   have f:n<=65536:=by omega
   go_enter func86,ntmps86
   go_wp2_with fail;go_loop [3] (λi=>∃k:Nat,55*(k:Int)<n+75/\i=.int .i64 k) (λi=>1300-(intOf i).toNat)
   case atStart=>exact⟨0,by omega,rfl⟩
   case round=>
    obtain⟨k,g,rfl⟩:=hrel
    by_cases c:55*(k:Int)<n+20
    ·go_wp2_with fail;go_round
     case rel=>exact⟨k+1,by omega,by go_num⟩
     case measure=>simp[intOf];omega
    ·go_wp2_with fail;go_ret;exact⟨rT (a:=k) (by rw[b.out];omega),rfl⟩
end Go.Proofs.YtfchcdbfalgdlaaGreatDoor
