/-
FeetextRoundTrip returns true for every input, and leaves what was there as it was.
Conditions: none.
-/
import Derived.Test.YtfphceknmgadgaaGreatDoorRows
import Derived.Test.YtfphceknmgadgaaGreatDoorTie
import Derived.Test.YtfphceknmgadgaaGreatDoorCards
import Derived.LaidMore
import Derived.Stop.Joined
import Derived.Stop.LaidErr
import Derived.Lib.LaidTab
import Derived.SevenTiedAt
import Derived.WalkKit
import Derived.ProofKit
import Derived.OpenShut
import Derived.ShutString
import Derived.ChangeOld
import Derived.ChangeMaps
import Derived.Below
import Derived.Test.YtfphceknmgadgaaGreatDoorQt
set_option linter.unusedSimpArgs false
set_option linter.unusedVariables false
namespace Go.Proofs.YtfphceknmgadgaaGreatDoor.feetextRoundTripDone
open Go.ChangeShapes Go.WideShapes Go.ChangeAt Go.RowKit
open Go.ChangeMaps (open_string shut_string)
open Go.Vm (below_of_grew CallsH.calls)
theorem own:ownKnob Tryz.prog.godebug=none:=by kernel_rfl
theorem R1:laidOutB Tryz.prog=true:=by kernel_rfl
theorem Nk(os:Os)(args:Array Value):laidMetH Tryz.prog Rows.feetextRoundTripRow.laid ((World.doorLaid Tryz.prog 24 os).forCall (fun _ _=>0) ⟨#[],args,[]⟩).memory:=
 laidMetH_of_parts3 (fuel:=8) (laidMet_of_run' 8 (by kernel_rfl) (by kernel_rfl)) (by kernel_rfl) (by kernel_rfl)
theorem Wx{W:World}(h:laidMetH Tryz.prog Rows.feetextRoundTripRow.laid W):Lib.TabIs Tryz.prog W "internal/strconv.uint64pow10" .u64 Lib.pow10Tab:=by
 rw[MakeChecks.laidMetH_plain _ _ _ (by kernel_rfl)]at h
 have h2:laidMet Tryz.prog (("internal/strconv.uint64pow10",Lib.tabData .u64 Lib.pow10Tab)::[]) W:=h.tail.tail
 exact Lib.tabIs_of_head (g:=1) (by kernel_rfl) (by kernel_rfl) Tryz.underlying141 Tryz.underlying125 (by kernel_rfl) (by kernel_rfl) h2
theorem walk(w:World)(hL:laidMetH Tryz.prog Rows.feetextRoundTripRow.laid w)(a0:Option Addr)(len0 cap0:Nat)(w0:uh w.heap a0 len0 cap0)(a1:ByteArray)(w1:Vm.MV 140737488351232 .str [.string a1]):Calls Tryz.prog 5 #[.slice a0 len0 cap0,.string a1] w fun e w'=>e=.returned (.bool true)∧Below w.heap.size w w':=
 (cX w (Wx hL) a0 len0 cap0 w0 a1 w1).calls.mono fun e w' ⟨⟨h1,h2⟩,h3⟩=>⟨h1,below_of_grew h2 h3⟩
set_option maxRecDepth 100000 in
theorem lifted(os:Os)(started:os.Started)(H:Type)(enc:TypeId×Value→H):
  ReturnsInHanded {} Tryz.checked os 5 .any (fun w args=>(Rows.feetextRoundTripSpec.pre enc Tryz.prog Tryz.f5 [] false w args∧laidMetH Tryz.prog Rows.feetextRoundTripRow.laid w)∧sizedMet enc Tryz.prog Tryz.f5 (OpenSpec.ofChange Rows.feetextRoundTripSpec) false w args) (Rows.feetextRoundTripSpec.post enc Tryz.prog Tryz.f5 false true false false):=by
 refine returnsInHanded_of_change_and (C:=Tryz.checked) (X:=fun w _=>laidMetH Tryz.prog Rows.feetextRoundTripRow.laid w) (fun _ _ _ hh h=>h.of_heap hh) own started (by kernel_rfl) Tryz.func5
  (ChangeSpec.witness_shaped (enc:=enc) (C:=Tryz.checked) (os:=os) (X:=fun w _=>laidMetH Tryz.prog Rows.feetextRoundTripRow.laid w) false (World.doorLaid Tryz.prog 24 os) #[.slice none 0 0,.string ⟨#[]⟩] 8 rfl (World.shaped_of_RefB (by kernel_rfl) (by kernel_rfl)) (by kernel_rfl) (by kernel_rfl) (by kernel_rfl) (Nk os _)) ?_
 intro W base args ds gs before hval0 hW _ hZ hL _
 have hval: ∀(j:Nat) t v,Tryz.f5.params[j]? =some t→args[j]? =some v→Value.okWide Tryz.prog W .any base t v:=hval0
 have hW':=hW
 obtain⟨p,q,hA0,hV,rfl,hfz,hnd⟩:=hW
 have hA:DataW.TrodAll enc Tryz.prog W 0 (fun _=>true) true Tryz.f5.params.toList args.toList ds p:=hA0
 rw[Tryz.params5]at hA hval
 obtain⟨v0,vs0,d0,ds0,p0,q0,hargs,rfl,rfl,h0,r0⟩:=trodAll_cons hA
 obtain⟨v1,vs1,d1,ds1,p1,q1,rfl,rfl,rfl,h1,r1⟩:=trodAll_cons r0
 obtain⟨rfl,rfl,rfl⟩:=trodAll_nil r1
 obtain rfl:args= #[v0,v1]:=by cases args;simp_all
 obtain⟨rfl,rfl⟩:=trodVars_none hV
 obtain⟨a0,len0,cap0,rfl⟩:=okWide_slice Tryz.underlying23 (hval 0 23 v0 rfl rfl)
 have k0:=h0
 have lt0: ∀x∈p0,x.block<W.heap.size:=by obtain⟨m,hm⟩:=k0;exact DataW.trod_lt m _ _ _ hm
 have w0:uh W.heap a0 len0 cap0:=Ut (i:=0) h0 hZ (by kernel_rfl) rfl
 have w1:Vm.MV 140737488351232 .str v1.cells.toList:=Vm.Wv (i:=1) .str (by kernel_rfl) h1 hZ (by kernel_rfl) rfl
 obtain⟨a1,rfl,rfl,rfl,z1⟩:=open_string Tryz.underlying9 (hval 1 9 v1 rfl rfl) h1
 clear hA0 hval0
 refine(walk W hL a0 len0 cap0 w0 a1 w1).mono fun e W' ⟨he,bel⟩=> ?_
 subst he
 exact⟨_,rfl,_,_,_,[],_,[],hW',trodAll_mk1 (shut_bool Tryz.underlying4 _),(trodAll_cons_mk (Below.trod R1 (by kernel_rfl) (of_decide_eq_true (by kernel_rfl)) k0 bel lt0) (trodAll_cons_mk (shut_string Tryz.underlying9 z1) trodAll_mk0)),rfl,bel.frame _,fun h=>by cases h⟩
theorem over:Rows.feetextRoundTripRow.holds Tryz.pinned (OpenSpec.ofChange Rows.feetextRoundTripSpec):=
 OpenClaim.holds_of_wide 5 Tryz.f5 rfl rfl rfl rfl rfl rfl rfl ⟨rfl,rfl,rfl,rfl,rfl⟩ rfl rfl rfl rfl rfl (by kernel_rfl) Tryz.func5 (by kernel_rfl)
  (of_decide_eq_true (by kernel_rfl)) (by unfold Func.isWrapper;first|(rw[if_pos (by decide+kernel)];kernel_rfl)|(rw[if_neg (by decide+kernel)];exact⟨rfl,rfl⟩))
  (fun os started H enc _=>lifted os started H enc)
end Go.Proofs.YtfphceknmgadgaaGreatDoor.feetextRoundTripDone
namespace Go.Proofs.YtfphceknmgadgaaGreatDoor
theorem feetextRoundTrip_proved:Rows.FeetextRoundTripCardSaid:=
 Claim7.holds_tied_plain_at .later [] [.data,.data,.data] true (true,"845f0add0c62e05a35f285b1b037cd87aaa0e649dec75d2b62b07ad43a67dc4d") true
  feetextRoundTripDone.over (fun _ h=>by cases h) (by kernel_rfl) (fun _ h=>by cases h) feetextRoundTrip_row_tie rfl ⟨rfl,rfl⟩ (by kernel_rfl) rfl
  (fun f fn hf hfn=>by
   obtain rfl:f=5:=Option.some.inj ((show Tryz.prog.funcNamed "cardnet/cardnetlaw37.FeetextRoundTrip" =some 5 by kernel_rfl).symm.trans hf) |>.symm
   obtain rfl:fn=Tryz.f5:=(Option.some.inj (Tryz.func5.symm.trans hfn)).symm
   exact⟨by kernel_rfl,fun j t ht=>by
    rw[Tryz.params5]at ht
    have hm:t∈[23,9]:=by simpa using Array.mem_of_getElem? ht
    have hall:([23,9].all fun u=> !Tryz.prog.wantsStandIn u)=true:=by kernel_rfl
    exact(show Tryz.prog.wantsStandIn t=false by simpa using List.all_eq_true.1 hall t hm)⟩)
  (by kernel_rfl)
#print axioms feetextRoundTrip_proved
end Go.Proofs.YtfphceknmgadgaaGreatDoor
