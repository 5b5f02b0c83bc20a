/-
  The proof of the tied card 'Rows.SweepPlaysCardSaid': for every input the Go function SweepPlays answers true, and each argument reads behind the call as it read before. Condition: the listed package-level variables hold what the program's text lays (the card ties them).
-/
import Derived.Test.YtfchcdbfalgdlaaGreatDoorSweepPlaysM47
import Derived.ShutString
import Derived.ChangeOld
import Derived.Below
import Derived.Test.YtfchcdbfalgdlaaGreatDoorTie
import Derived.Test.YtfchcdbfalgdlaaGreatDoorCards
import Derived.Lay
import Derived.Handy
set_option maxHeartbeats 4000000
set_option maxRecDepth 100000
set_option linter.unusedVariables false
set_option linter.unusedSimpArgs false
namespace Go.Proofs.YtfchcdbfalgdlaaGreatDoor.sweepPlays
open _root_.Go.Proofs.Tryz
open Go.ChangeShapes Go.WideShapes Go.ChangeAt Go.RowKit Go.Proofs.YtfchcdbfalgdlaaGreatDoor
open Go.ChangeMaps (open_string shut_string)
theorem own:ownKnob prog.godebug=none:=by kernel_rfl
theorem laidOut:laidOutB prog=true:=by kernel_rfl
theorem Fy(os:Os)(d:os.Started)(H:Type)(enc:TypeId×Value->H):
    ReturnsInHanded {} checked os 6 .any (λw args=>(Rows.sweepPlaysSpec.pre enc prog f6 [] false w args/\laidMetH prog [("entrust/entrustref02.Constants",Rows.laid_entrust_entrustref02_Constants),("entrust/entrustref02.Initials",Rows.laid_entrust_entrustref02_Initials),("entrust/sha.constants",Rows.laid_entrust_sha_constants),("entrust/sha.initials",Rows.laid_entrust_sha_initials)] w)/\sizedMet enc prog f6 (OpenSpec.ofChange Rows.sweepPlaysSpec) false w args)
     (Rows.sweepPlaysSpec.post enc prog f6 false true false false):=by
 refine returnsInHanded_of_change_and (C:=checked) (X:=λw _=>laidMetH prog [("entrust/entrustref02.Constants",Rows.laid_entrust_entrustref02_Constants),("entrust/entrustref02.Initials",Rows.laid_entrust_entrustref02_Initials),("entrust/sha.constants",Rows.laid_entrust_sha_constants),("entrust/sha.initials",Rows.laid_entrust_sha_initials)] w) (λ_ _ _ N h=>h.of_heap N) own d (by kernel_rfl) func6
  (ChangeSpec.witness_shaped (enc:=enc) (C:=checked) (os:=os) (X:=λw _=>laidMetH prog [("entrust/entrustref02.Constants",Rows.laid_entrust_entrustref02_Constants),("entrust/entrustref02.Initials",Rows.laid_entrust_entrustref02_Initials),("entrust/sha.constants",Rows.laid_entrust_sha_constants),("entrust/sha.initials",Rows.laid_entrust_sha_initials)] w) false (World.laidAll prog os [("entrust/entrustref02.Constants",Rows.laid_entrust_entrustref02_Constants),("entrust/entrustref02.Initials",Rows.laid_entrust_entrustref02_Initials),("entrust/sha.constants",Rows.laid_entrust_sha_constants),("entrust/sha.initials",Rows.laid_entrust_sha_initials)]) #[.int .i64 0,.slice none 0 0] 8 (World.laidAll_os _ _ _)
   (World.shaped_of_ZipB (by kernel_rfl) (by kernel_rfl)) (by kernel_rfl) (by kernel_rfl) (by kernel_rfl)
   (by rw[MakeChecks.laidMetH_plain _ _ _ (by kernel_rfl)];exact laidMet_laidAll _ (by kernel_rfl) (by kernel_rfl))) ?_
 intro W base args E gs i c u y n I _;have b:∀(j:Nat) t v,f6.params[j]?=some t->args[j]?=some v->Value.okWide prog W .any base t v:=c;have k:=u;obtain⟨p,q,g,J,rfl,M,O⟩:=u;have s:DataW.TrodAll enc prog W 0 (λ_=>true) true f6.params.toList args.toList E p:=g;rw[params6]at s b;obtain⟨v0,V,d0,F,R,q0,l,rfl,rfl,h0,T⟩:=trodAll_cons s;obtain⟨v1,Y,d1,G,S,q1,rfl,rfl,rfl,h1,U⟩:=trodAll_cons T;obtain⟨rfl,rfl,rfl⟩:=trodAll_nil U;obtain rfl:args= #[v0,v1]:=by cases args;simp_all
 obtain⟨rfl,rfl⟩:=trodVars_none J;have z:=h0;have o:∀x∈R,x.block<W.heap.size:=by obtain⟨m,hm⟩:=z;exact DataW.trod_lt m _ _ _ hm
 obtain⟨D,rfl,rfl,rfl,Z⟩:=open_int underlying3 (b 0 3 v0 rfl rfl) h0;have B:=h1;have r:∀x∈S,x.block<W.heap.size:=by obtain⟨m,hm⟩:=B;exact DataW.trod_lt m _ _ _ hm
 have z1:Sz prog 47 d1:=Sz.of n (j:=1) (by first|rfl|kernel_rfl) (by rfl);have P:=BO (b 1 47 v1 rfl rfl) h1 z1;clear g c;refine(xC D Z P I).mono λe W' ⟨L,f⟩=>?_
 subst L;exact⟨_,rfl,_,_,_,[],_,[],k,trodAll_mk1 (shut_bool underlying4 _),(trodAll_cons_mk (Below.trod laidOut (by kernel_rfl) (of_decide_eq_true (by kernel_rfl)) z f o) (trodAll_cons_mk (Below.trod laidOut (by kernel_rfl) (of_decide_eq_true (by kernel_rfl)) B f r) trodAll_mk0)),rfl,f.frame _,λh=>by cases h⟩
theorem Hb:Rows.sweepPlaysRow.holds Tryz.pinned (OpenSpec.ofChange Rows.sweepPlaysSpec):=
 OpenClaim.holds_of_wide 6 f6 rfl rfl rfl rfl rfl rfl rfl ⟨rfl,rfl,rfl,rfl,rfl⟩ rfl rfl rfl rfl rfl (by kernel_rfl) func6 (by kernel_rfl)
  (of_decide_eq_true (by kernel_rfl)) (by unfold Func.isWrapper;first|(rw[if_pos (by decide+kernel)];kernel_rfl)|(rw[if_neg (by decide+kernel)];exact⟨rfl,rfl⟩))
  (λos b H enc _=>Fy os b H enc)
theorem proved:Rows.SweepPlaysCardSaid:=
 Claim7.holds_tied_plain_at .later [] [.data,.data,.data,.data] true (true, "f3b1ea11218157b48938e2f7ae7620b4529109122802ffd642012c14ba9b73d6") true
  Hb (λ_ h=>by cases h) (by kernel_rfl) (λ_ h=>by cases h) sweepPlays_row_tie rfl ⟨rfl,rfl⟩ (by kernel_rfl) rfl
  (λf fn d c=>by
   obtain rfl:f=6:=Option.some.inj ((show prog.funcNamed "entrust/entrustlaw20.SweepPlays" =some 6 by kernel_rfl).symm.trans d) |>.symm;obtain rfl:fn=f6:=(Option.some.inj (func6.symm.trans c)).symm
   exact ⟨by kernel_rfl,λj t ht=>by
    rw[params6]at ht;have hm:t∈[3,47]:=by simpa using Array.mem_of_getElem? ht
    have b:([3,47].all λu=> !prog.wantsStandIn u)=true:=by kernel_rfl
    exact(show prog.wantsStandIn t=false by simpa using List.all_eq_true.1 b t hm)⟩)
  (by kernel_rfl)
#print axioms proved
end Go.Proofs.YtfchcdbfalgdlaaGreatDoor.sweepPlays
