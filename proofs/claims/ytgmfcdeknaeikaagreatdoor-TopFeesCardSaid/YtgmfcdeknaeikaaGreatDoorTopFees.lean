/-
TopFees returns true for every input, and leaves what was there as it was.
Conditions: none.
-/
import Derived.Test.YtgmfcdeknaeikaaGreatDoorRows
import Derived.Test.YtgmfcdeknaeikaaGreatDoorTie
import Derived.Test.YtgmfcdeknaeikaaGreatDoorCards
import Derived.LaidMore
import Derived.Stop.Joined
import Derived.Stop.LaidErr
import Derived.Lib.LaidTab
import Derived.SevenTiedAt
import Derived.ProofKit
import Derived.OpenShut
import Derived.ShutString
import Derived.ChangeOld
import Derived.ChangeMaps
import Derived.Test.YtgmfcdeknaeikaaGreatDoorUf
set_option linter.unusedSimpArgs false
set_option linter.unusedVariables false
namespace Go.Proofs.YtgmfcdeknaeikaaGreatDoor.topFeesDone
open Go.ChangeShapes Go.WideShapes Go.ChangeAt Go.RowKit
open Go.ChangeMaps (open_string shut_string)
open Go.Vm (below_of_grew CallsH.calls)
theorem own:ownKnob Tryz.prog.godebug=none:=by kernel_rfl
theorem iq:laidOutB Tryz.prog=true:=by kernel_rfl
theorem ZN(os:Os)(args:Array Value):laidMetH Tryz.prog Rows.topFeesRow.laid ((World.doorLaid Tryz.prog 24 os).forCall (fun _ _=>0) ⟨#[],args,[]⟩).memory:=
 laidMetH_of_parts3 (fuel:=8) (laidMet_of_run' 8 (by kernel_rfl) (by kernel_rfl)) (by kernel_rfl) (by kernel_rfl)
theorem oM{W:World}(h:laidMetH Tryz.prog Rows.topFeesRow.laid W):Lib.TabIs Tryz.prog W "internal/strconv.uint64pow10" .u64 Lib.pow10Tab:=by
 rw[MakeChecks.laidMetH_plain _ _ _ (by kernel_rfl)]at h
 have h2:laidMet Tryz.prog (("internal/strconv.uint64pow10",Lib.tabData .u64 Lib.pow10Tab)::[]) W:=h.tail.tail
 exact Lib.tabIs_of_head (g:=0) (by kernel_rfl) (by kernel_rfl) Tryz.underlying193 Tryz.underlying165 (by kernel_rfl) (by kernel_rfl) h2
theorem uX(w:World)(hL:laidMetH Tryz.prog Rows.topFeesRow.laid w)(a0:ByteArray)(a1:Array Value)(w1:Vm.OD w.heap (.st 12 [(0,1,.int .i64),(1,1,.str),(2,1,.str),(3,1,.str),(4,1,.str),(5,1,.str),(6,1,.str),(7,2,.st 2 [(0,1,.int .i64),(1,1,.str)]),(9,1,.int .i64),(10,1,.int .i64),(11,1,.bool)]) a1.toList):Calls Tryz.prog 3 #[.string a0,.agg a1] w fun e w'=>e=.returned (.bool true)∧Below w.heap.size w w':=
 (dg w (oM hL) a0 a1 w1).calls.mono fun e w' ⟨⟨h1,h2⟩,h3⟩=>⟨h1,below_of_grew h2 h3⟩
set_option maxRecDepth 100000 in
theorem lifted(os:Os)(started:os.Started)(H:Type)(enc:TypeId×Value→H):
  ReturnsInHanded {} Tryz.checked os 3 .any (fun w args=>(Rows.topFeesSpec.pre enc Tryz.prog Tryz.f3 [] false w args∧laidMetH Tryz.prog Rows.topFeesRow.laid w)∧sizedMet enc Tryz.prog Tryz.f3 (OpenSpec.ofChange Rows.topFeesSpec) false w args) (Rows.topFeesSpec.post enc Tryz.prog Tryz.f3 false true false false):=by
 refine returnsInHanded_of_change_and (C:=Tryz.checked) (X:=fun w _=>laidMetH Tryz.prog Rows.topFeesRow.laid w) (fun _ _ _ hh h=>h.of_heap hh) own started (by kernel_rfl) Tryz.func3
  (ChangeSpec.witness_shaped (enc:=enc) (C:=Tryz.checked) (os:=os) (X:=fun w _=>laidMetH Tryz.prog Rows.topFeesRow.laid w) false (World.doorLaid Tryz.prog 24 os) #[.string ⟨#[]⟩,.agg #[.int .i64 0,.string ⟨#[]⟩,.string ⟨#[]⟩,.string ⟨#[]⟩,.string ⟨#[]⟩,.string ⟨#[]⟩,.string ⟨#[]⟩,.int .i64 0,.string ⟨#[]⟩,.int .i64 0,.int .i64 0,.bool false]] 8 rfl (World.shaped_of_RefB (by kernel_rfl) (by kernel_rfl)) (by kernel_rfl) (by kernel_rfl) (by kernel_rfl) (ZN os _)) ?_
 intro W base args ds gs before hval0 hW _ hZ hL _
 have hval: ∀(j:Nat) t v,Tryz.f3.params[j]? =some t→args[j]? =some v→Value.okWide Tryz.prog W .any base t v:=hval0
 have hW':=hW
 obtain⟨p,q,hA0,hV,rfl,hfz,hnd⟩:=hW
 have hA:DataW.TrodAll enc Tryz.prog W 0 (fun _=>true) true Tryz.f3.params.toList args.toList ds p:=hA0
 rw[Tryz.params3]at hA hval
 obtain⟨v0,vs0,d0,ds0,p0,q0,hargs,rfl,rfl,h0,r0⟩:=trodAll_cons hA
 obtain⟨v1,vs1,d1,ds1,p1,q1,rfl,rfl,rfl,h1,r1⟩:=trodAll_cons r0
 obtain⟨rfl,rfl,rfl⟩:=trodAll_nil r1
 obtain rfl:args= #[v0,v1]:=by cases args;simp_all
 obtain⟨rfl,rfl⟩:=trodVars_none hV
 obtain⟨a0,rfl,rfl,rfl,z0⟩:=open_string Tryz.underlying9 (hval 0 9 v0 rfl rfl) h0
 obtain⟨a1,rfl,_⟩:=okWide_struct Tryz.underlying25 (hval 1 25 v1 rfl rfl)
 have k1:=h1
 have lt1: ∀x∈p1,x.block<W.heap.size:=by obtain⟨m,hm⟩:=k1;exact DataW.trod_lt m _ _ _ hm
 have w1:Vm.OD W.heap (.st 12 [(0,1,.int .i64),(1,1,.str),(2,1,.str),(3,1,.str),(4,1,.str),(5,1,.str),(6,1,.str),(7,2,.st 2 [(0,1,.int .i64),(1,1,.str)]),(9,1,.int .i64),(10,1,.int .i64),(11,1,.bool)]) a1.toList:=Vm.WN (.st 12 [(0,1,.int .i64),(1,1,.str),(2,1,.str),(3,1,.str),(4,1,.str),(5,1,.str),(6,1,.str),(7,2,.st 2 [(0,1,.int .i64),(1,1,.str)]),(9,1,.int .i64),(10,1,.int .i64),(11,1,.bool)]) (by kernel_rfl) h1
 clear hA0 hval0
 refine(uX W hL a0 a1 w1).mono fun e W' ⟨he,bel⟩=> ?_
 subst he
 exact⟨_,rfl,_,_,_,[],_,[],hW',trodAll_mk1 (shut_bool Tryz.underlying4 _),(trodAll_cons_mk (shut_string Tryz.underlying9 z0) (trodAll_cons_mk (Below.trod iq (by kernel_rfl) (of_decide_eq_true (by kernel_rfl)) k1 bel lt1) trodAll_mk0)),rfl,bel.frame _,fun h=>by cases h⟩
theorem over:Rows.topFeesRow.holds Tryz.pinned (OpenSpec.ofChange Rows.topFeesSpec):=
 OpenClaim.holds_of_wide 3 Tryz.f3 rfl rfl rfl rfl rfl rfl rfl ⟨rfl,rfl,rfl,rfl,rfl⟩ rfl rfl rfl rfl rfl (by kernel_rfl) Tryz.func3 (by kernel_rfl)
  (of_decide_eq_true (by kernel_rfl)) (by unfold Func.isWrapper;first|(rw[if_pos (by decide+kernel)];kernel_rfl)|(rw[if_neg (by decide+kernel)];exact⟨rfl,rfl⟩))
  (fun os started H enc _=>lifted os started H enc)
end Go.Proofs.YtgmfcdeknaeikaaGreatDoor.topFeesDone
namespace Go.Proofs.YtgmfcdeknaeikaaGreatDoor
theorem topFees_proved:Rows.TopFeesCardSaid:=
 Claim7.holds_tied_plain_at .later [] [.data,.data,.data] true (true,"ae7996662f9e7a517b65e0cdc46f92fa6f7b70685f70e1ab21e545a07122a197") true
  topFeesDone.over (fun _ h=>by cases h) (by kernel_rfl) (fun _ h=>by cases h) topFees_row_tie rfl ⟨rfl,rfl⟩ (by kernel_rfl) rfl
  (fun f fn hf hfn=>by
   obtain rfl:f=3:=Option.some.inj ((show Tryz.prog.funcNamed "cardnet/cardnettop.TopFees" =some 3 by kernel_rfl).symm.trans hf) |>.symm
   obtain rfl:fn=Tryz.f3:=(Option.some.inj (Tryz.func3.symm.trans hfn)).symm
   exact⟨by kernel_rfl,fun j t ht=>by
    rw[Tryz.params3]at ht
    have hm:t∈[9,25]:=by simpa using Array.mem_of_getElem? ht
    have hall:([9,25].all fun u=> !Tryz.prog.wantsStandIn u)=true:=by kernel_rfl
    exact(show Tryz.prog.wantsStandIn t=false by simpa using List.all_eq_true.1 hall t hm)⟩)
  (by kernel_rfl)
#print axioms topFees_proved
end Go.Proofs.YtgmfcdeknaeikaaGreatDoor
