/-
  The proof of the tied card 'Rows.SweepOpensCardSaid': for every input the Go function SweepOpens answers true, and each argument reads behind the call as it read before. Condition: the listed package-level variables hold what the program's text lays (the card ties them).
-/
import Derived.Test.YtfchcdbfalgdlaaGreatDoorSweepOpensM45
import Derived.ShutString
import Derived.ChangeOld
import Derived.Below
import Derived.Test.YtfchcdbfalgdlaaGreatDoorTie
import Derived.Test.YtfchcdbfalgdlaaGreatDoorCards
import Derived.Lay
import Derived.Handy
set_option maxHeartbeats 4000000
set_option maxRecDepth 100000
set_option linter.unusedVariables false
set_option linter.unusedSimpArgs false
namespace Go.Proofs.YtfchcdbfalgdlaaGreatDoor.sweepOpens
open _root_.Go.Proofs.Tryz
open Go.ChangeShapes Go.WideShapes Go.ChangeAt Go.RowKit Go.Proofs.YtfchcdbfalgdlaaGreatDoor
open Go.ChangeMaps (open_string shut_string)
theorem own:ownKnob prog.godebug=none:=by kernel_rfl
theorem laidOut:laidOutB prog=true:=by kernel_rfl
theorem DE(os:Os)(started:os.Started)(H:Type)(enc:TypeId×Value→H):
    ReturnsInHanded {} checked os 5 .any (fun w args=>(Rows.sweepOpensSpec.pre enc prog f5 [] false w args∧laidMetH prog [("entrust/entrustref02.Constants",Rows.laid_entrust_entrustref02_Constants),("entrust/entrustref02.Initials",Rows.laid_entrust_entrustref02_Initials),("entrust/sha.constants",Rows.laid_entrust_sha_constants),("entrust/sha.initials",Rows.laid_entrust_sha_initials)] w)∧sizedMet enc prog f5 (OpenSpec.ofChange Rows.sweepOpensSpec) false w args)
     (Rows.sweepOpensSpec.post enc prog f5 false true false false):=by
 refine returnsInHanded_of_change_and (C:=checked) (X:=fun w _=>laidMetH prog [("entrust/entrustref02.Constants",Rows.laid_entrust_entrustref02_Constants),("entrust/entrustref02.Initials",Rows.laid_entrust_entrustref02_Initials),("entrust/sha.constants",Rows.laid_entrust_sha_constants),("entrust/sha.initials",Rows.laid_entrust_sha_initials)] w) (fun _ _ _ hh h=>h.of_heap hh) own started (by kernel_rfl) func5
  (ChangeSpec.witness_shaped (enc:=enc) (C:=checked) (os:=os) (X:=fun w _=>laidMetH prog [("entrust/entrustref02.Constants",Rows.laid_entrust_entrustref02_Constants),("entrust/entrustref02.Initials",Rows.laid_entrust_entrustref02_Initials),("entrust/sha.constants",Rows.laid_entrust_sha_constants),("entrust/sha.initials",Rows.laid_entrust_sha_initials)] w) false (World.laidAll prog os [("entrust/entrustref02.Constants",Rows.laid_entrust_entrustref02_Constants),("entrust/entrustref02.Initials",Rows.laid_entrust_entrustref02_Initials),("entrust/sha.constants",Rows.laid_entrust_sha_constants),("entrust/sha.initials",Rows.laid_entrust_sha_initials)]) #[.slice none 0 0,.bool false] 8 (World.laidAll_os _ _ _)
   (World.shaped_of_ZipB (by kernel_rfl) (by kernel_rfl)) (by kernel_rfl) (by kernel_rfl) (by kernel_rfl)
   (by rw[MakeChecks.laidMetH_plain _ _ _ (by kernel_rfl)];exact laidMet_laidAll _ (by kernel_rfl) (by kernel_rfl))) ?_
 intro W base args ds gs before hval0 hW hcnd hsz hL _;have hval:∀(j:Nat) t v,f5.params[j]?=some t→args[j]?=some v→Value.okWide prog W .any base t v:=hval0;have hW':=hW;obtain⟨p,q,hA0,hV,rfl,hfz,hnd⟩:=hW;have hA:DataW.TrodAll enc prog W 0 (fun _=>true) true f5.params.toList args.toList ds p:=hA0;rw[params5]at hA hval;obtain⟨v0,vs0,d0,ds0,p0,q0,hargs,rfl,rfl,h0,r0⟩:=trodAll_cons hA;obtain⟨v1,vs1,d1,ds1,p1,q1,rfl,rfl,rfl,h1,r1⟩:=trodAll_cons r0;obtain⟨rfl,rfl,rfl⟩:=trodAll_nil r1;obtain rfl:args= #[v0,v1]:=by cases args;simp_all
 obtain⟨rfl,rfl⟩:=trodVars_none hV;have k0:=h0;have lt0:∀x∈p0,x.block<W.heap.size:=by obtain⟨m,hm⟩:=k0;exact DataW.trod_lt m _ _ _ hm
 have z0:Sz prog 62 d0:=Sz.of hsz (j:=0) (by first|rfl|kernel_rfl) (by rfl);have o0:=xU (hval 0 62 v0 rfl rfl) h0 z0;have k1:=h1;have lt1:∀x∈p1,x.block<W.heap.size:=by obtain⟨m,hm⟩:=k1;exact DataW.trod_lt m _ _ _ hm
 obtain⟨a1,rfl,rfl,rfl⟩:=open_bool underlying4 (hval 1 4 v1 rfl rfl) h1;clear hA0 hval0;refine(vv o0 a1 hL).mono fun e W' ⟨he,bel⟩=>?_
 subst he;exact⟨_,rfl,_,_,_,[],_,[],hW',trodAll_mk1 (shut_bool underlying4 _),(trodAll_cons_mk (Below.trod laidOut (by kernel_rfl) (of_decide_eq_true (by kernel_rfl)) k0 bel lt0) (trodAll_cons_mk (Below.trod laidOut (by kernel_rfl) (of_decide_eq_true (by kernel_rfl)) k1 bel lt1) trodAll_mk0)),rfl,bel.frame _,fun h=>by cases h⟩
theorem Fv:Rows.sweepOpensRow.holds Tryz.pinned (OpenSpec.ofChange Rows.sweepOpensSpec):=
 OpenClaim.holds_of_wide 5 f5 rfl rfl rfl rfl rfl rfl rfl ⟨rfl,rfl,rfl,rfl,rfl⟩ rfl rfl rfl rfl rfl (by kernel_rfl) func5 (by kernel_rfl)
  (of_decide_eq_true (by kernel_rfl)) (by unfold Func.isWrapper;first|(rw[if_pos (by decide+kernel)];kernel_rfl)|(rw[if_neg (by decide+kernel)];exact⟨rfl,rfl⟩))
  (fun os b H enc _=>DE os b H enc)
theorem proved:Rows.SweepOpensCardSaid:=
 Claim7.holds_tied_plain_at .later [] [.data,.data,.data,.data] true (true, "f3b1ea11218157b48938e2f7ae7620b4529109122802ffd642012c14ba9b73d6") true
  Fv (fun _ h=>by cases h) (by kernel_rfl) (fun _ h=>by cases h) sweepOpens_row_tie rfl ⟨rfl,rfl⟩ (by kernel_rfl) rfl
  (fun f fn d c=>by
   obtain rfl:f=5:=Option.some.inj ((show prog.funcNamed "entrust/entrustlaw20.SweepOpens" =some 5 by kernel_rfl).symm.trans d) |>.symm;obtain rfl:fn=f5:=(Option.some.inj (func5.symm.trans c)).symm
   exact ⟨by kernel_rfl,fun j t ht=>by
    rw[params5]at ht;have g:t∈[62,4]:=by simpa using Array.mem_of_getElem? ht
    have b:([62,4].all fun u=> !prog.wantsStandIn u)=true:=by kernel_rfl
    exact(show prog.wantsStandIn t=false by simpa using List.all_eq_true.1 b t g)⟩)
  (by kernel_rfl)
#print axioms proved
end Go.Proofs.YtfchcdbfalgdlaaGreatDoor.sweepOpens
