/-
TokenDomains returns true for every input, and leaves what was there as it was.
Conditions: none.
-/
import Derived.Test.YtoonmogjjddeeaaDoorRows
import Derived.Test.YtoonmogjjddeeaaDoorTie
import Derived.Test.YtoonmogjjddeeaaDoorCards
import Derived.LaidMore
import Derived.Stop.Joined
import Derived.Stop.LaidErr
import Derived.Lib.LaidTab
import Derived.SevenTiedAt
import Derived.WalkKit
import Derived.ProofKit
import Derived.OpenShut
import Derived.ShutString
import Derived.ChangeOld
import Derived.ChangeMaps
import Derived.Below
import Derived.Test.YtoonmogjjddeeaaDoorTokZ
namespace Go.Proofs.YtoonmogjjddeeaaDoor.tokenDomainsDone
open Go.ChangeShapes Go.WideShapes Go.ChangeAt Go.RowKit
open Go.ChangeMaps (open_string shut_string)
open Go.Vm (below_of_grew CallsH.calls)
set_option linter.unusedVariables false

theorem own : ownKnob Tryd.prog.godebug = none := by kernel_rfl
theorem laidOut : laidOutB Tryd.prog = true := by kernel_rfl
/-- The door's own heap meets the condition: three closed facts. -/
theorem door_met (os : Os) (args : Array Value) : laidMetH Tryd.prog Rows.tokenDomainsRow.laid ((World.doorLaid Tryd.prog 24 os).forCall (fun _ _ => 0) ⟨#[], args, []⟩).memory :=
  laidMetH_of_parts3 (fuel := 8) (laidMet_of_run' 8 (by kernel_rfl) (by kernel_rfl)) (by kernel_rfl) (by kernel_rfl)

theorem tab_of {W : World} (h : laidMetH Tryd.prog Rows.tokenDomainsRow.laid W) : Lib.TabIs Tryd.prog W "internal/strconv.uint64pow10" .u64 Lib.pow10Tab := by
  rw [MakeChecks.laidMetH_plain _ _ _ (by kernel_rfl)] at h
  have h2 : laidMet Tryd.prog (("internal/strconv.uint64pow10", Lib.tabData .u64 Lib.pow10Tab) :: []) W := h.tail.tail
  exact Lib.tabIs_of_head (g := 1) (by kernel_rfl) (by kernel_rfl) Tryd.underlying113 Tryd.underlying98 (by kernel_rfl) (by kernel_rfl) h2
theorem walk (w : World) (hL : laidMetH Tryd.prog Rows.tokenDomainsRow.laid w) (a0 : Int) (w0 : (Lit.int .u16 a0).wf = true) (a1 : Array Value) (w1 : Vm.Fits w.heap ((.st 3 [(0, 1, .str), (1, 1, .str), (2, 1, .int .i64)])) a1.toList) (z1 : Vm.FitsZ 140737488351232 ((.st 3 [(0, 1, .str), (1, 1, .str), (2, 1, .int .i64)])) a1.toList) (a2 : ByteArray) (w2 : Vm.FitsZ 140737488351232 .str [.string a2]) (a3 : ByteArray) (w3 : Vm.FitsZ 140737488351232 .str [.string a3]) (a4 : Int) (w4 : (Lit.int .i64 a4).wf = true) (a5 : Bool) : Calls Tryd.prog 3 #[.int .u16 a0, .agg a1, .string a2, .string a3, .int .i64 a4, .bool a5] w fun e w' => e = .returned (.bool true) ∧ Below w.heap.size w w' :=
  (domains_walk w (tab_of hL) a0 w0 a1 w1 z1 a2 w2 a3 w3 a4 w4 a5).calls.mono fun e w' ⟨⟨h1, h2⟩, h3⟩ => ⟨h1, below_of_grew h2 h3⟩

set_option maxRecDepth 100000 in
theorem lifted (os : Os) (started : os.Started) (H : Type) (enc : TypeId × Value → H) :
    ReturnsInHanded {} Tryd.checked os 3 .any (fun w args => (Rows.tokenDomainsSpec.pre enc Tryd.prog Tryd.f3 [] false w args ∧ laidMetH Tryd.prog Rows.tokenDomainsRow.laid w) ∧ sizedMet enc Tryd.prog Tryd.f3 (OpenSpec.ofChange Rows.tokenDomainsSpec) false w args) (Rows.tokenDomainsSpec.post enc Tryd.prog Tryd.f3 false true false false) := by
  refine returnsInHanded_of_change_and (C := Tryd.checked) (X := fun w _ => laidMetH Tryd.prog Rows.tokenDomainsRow.laid w) (fun _ _ _ hh h => h.of_heap hh) own started (by kernel_rfl) Tryd.func3
    (ChangeSpec.witness_shaped (enc := enc) (C := Tryd.checked) (os := os) (X := fun w _ => laidMetH Tryd.prog Rows.tokenDomainsRow.laid w) false (World.doorLaid Tryd.prog 24 os) #[.int .u16 0, .agg #[.string ⟨#[]⟩, .string ⟨#[]⟩, .int .i64 0], .string ⟨#[]⟩, .string ⟨#[]⟩, .int .i64 0, .bool false] 8 rfl (World.shaped_of_RefB (by kernel_rfl) (by kernel_rfl)) (by kernel_rfl) (by kernel_rfl) (by kernel_rfl) (door_met os _)) ?_
  intro W base args ds gs before hval0 hW _ hZ hL _
  have hval : ∀ (j : Nat) t v, Tryd.f3.params[j]? = some t → args[j]? = some v → Value.okWide Tryd.prog W .any base t v := hval0
  have hW' := hW
  obtain ⟨p, q, hA0, hV, rfl, hfz, hnd⟩ := hW
  have hA : DataW.TrodAll enc Tryd.prog W 0 (fun _ => true) true Tryd.f3.params.toList args.toList ds p := hA0
  rw [Tryd.params3] at hA hval
  obtain ⟨v0, vs0, d0, ds0, p0, q0, hargs, rfl, rfl, h0, r0⟩ := trodAll_cons hA
  obtain ⟨v1, vs1, d1, ds1, p1, q1, rfl, rfl, rfl, h1, r1⟩ := trodAll_cons r0
  obtain ⟨v2, vs2, d2, ds2, p2, q2, rfl, rfl, rfl, h2, r2⟩ := trodAll_cons r1
  obtain ⟨v3, vs3, d3, ds3, p3, q3, rfl, rfl, rfl, h3, r3⟩ := trodAll_cons r2
  obtain ⟨v4, vs4, d4, ds4, p4, q4, rfl, rfl, rfl, h4, r4⟩ := trodAll_cons r3
  obtain ⟨v5, vs5, d5, ds5, p5, q5, rfl, rfl, rfl, h5, r5⟩ := trodAll_cons r4
  obtain ⟨rfl, rfl, rfl⟩ := trodAll_nil r5
  obtain rfl : args = #[v0, v1, v2, v3, v4, v5] := by cases args; simp_all
  obtain ⟨rfl, rfl⟩ := trodVars_none hV
  obtain ⟨a0, rfl, rfl, rfl, w0⟩ := open_int Tryd.underlying22 (hval 0 22 v0 rfl rfl) h0
  obtain ⟨a1, rfl, _⟩ := okWide_struct Tryd.underlying24 (hval 1 24 v1 rfl rfl)
  have k1 := h1
  have lt1 : ∀ x ∈ p1, x.block < W.heap.size := by obtain ⟨m, hm⟩ := k1; exact DataW.trod_lt m _ _ _ hm
  have w1 : Vm.Fits W.heap ((.st 3 [(0, 1, .str), (1, 1, .str), (2, 1, .int .i64)])) a1.toList := Vm.fits_trod ((.st 3 [(0, 1, .str), (1, 1, .str), (2, 1, .int .i64)])) (by kernel_rfl) h1
  have z1 : Vm.FitsZ 140737488351232 ((.st 3 [(0, 1, .str), (1, 1, .str), (2, 1, .int .i64)])) a1.toList := Vm.fitsZ_trod (i := 1) ((.st 3 [(0, 1, .str), (1, 1, .str), (2, 1, .int .i64)])) (by kernel_rfl) h1 hZ (by kernel_rfl) rfl
  have w2 : Vm.FitsZ 140737488351232 .str v2.cells.toList := Vm.fitsZ_trod (i := 2) .str (by kernel_rfl) h2 hZ (by kernel_rfl) rfl
  obtain ⟨a2, rfl, rfl, rfl, z2⟩ := open_string Tryd.underlying9 (hval 2 9 v2 rfl rfl) h2
  have w3 : Vm.FitsZ 140737488351232 .str v3.cells.toList := Vm.fitsZ_trod (i := 3) .str (by kernel_rfl) h3 hZ (by kernel_rfl) rfl
  obtain ⟨a3, rfl, rfl, rfl, z3⟩ := open_string Tryd.underlying9 (hval 3 9 v3 rfl rfl) h3
  obtain ⟨a4, rfl, rfl, rfl, w4⟩ := open_int Tryd.underlying3 (hval 4 3 v4 rfl rfl) h4
  obtain ⟨a5, rfl, rfl, rfl⟩ := open_bool Tryd.underlying4 (hval 5 4 v5 rfl rfl) h5
  clear hA0 hval0
  refine (walk W hL a0 w0 a1 w1 z1 a2 w2 a3 w3 a4 w4 a5).mono fun e W' ⟨he, bel⟩ => ?_
  subst he
  exact ⟨_, rfl, _, _, _, [], _, [], hW', trodAll_mk1 (shut_bool Tryd.underlying4 _), (trodAll_cons_mk (shut_int Tryd.underlying22 w0) (trodAll_cons_mk (Below.trod laidOut (by kernel_rfl) (of_decide_eq_true (by kernel_rfl)) k1 bel lt1) (trodAll_cons_mk (shut_string Tryd.underlying9 z2) (trodAll_cons_mk (shut_string Tryd.underlying9 z3) (trodAll_cons_mk (shut_int Tryd.underlying3 w4) (trodAll_cons_mk (shut_bool Tryd.underlying4 _) trodAll_mk0)))))), rfl, bel.frame _, fun h => by cases h⟩

theorem over : Rows.tokenDomainsRow.holds Tryd.pinned (OpenSpec.ofChange Rows.tokenDomainsSpec) :=
  OpenClaim.holds_of_wide 3 Tryd.f3 rfl rfl rfl rfl rfl rfl rfl ⟨rfl, rfl, rfl, rfl, rfl⟩ rfl rfl rfl rfl rfl (by kernel_rfl) Tryd.func3 (by kernel_rfl)
    (of_decide_eq_true (by kernel_rfl)) (by unfold Func.isWrapper; first | (rw [if_pos (by decide +kernel)]; kernel_rfl) | (rw [if_neg (by decide +kernel)]; exact ⟨rfl, rfl⟩))
    (fun os started H enc _ => lifted os started H enc)
end Go.Proofs.YtoonmogjjddeeaaDoor.tokenDomainsDone
namespace Go.Proofs.YtoonmogjjddeeaaDoor
theorem tokenDomains_proved : Rows.TokenDomainsCardSaid :=
  Claim7.holds_tied_plain_at .later [] [.data, .data, .data] true (true, "d44cd6187c408306c5bd22563afa80fd5367974426c3d4d502bff7817f86b6e5") false
    tokenDomainsDone.over (fun _ h => by cases h) (by kernel_rfl) (fun _ h => by cases h) tokenDomains_row_tie rfl ⟨rfl, rfl⟩ (by kernel_rfl) rfl
    (fun f fn hf hfn => by
      obtain rfl : f = 3 := Option.some.inj ((show Tryd.prog.funcNamed "cardnet/cardnetlaw15.TokenDomains" = some 3 by kernel_rfl).symm.trans hf) |>.symm
      obtain rfl : fn = Tryd.f3 := (Option.some.inj (Tryd.func3.symm.trans hfn)).symm
      exact ⟨by kernel_rfl, fun j t ht => by
        rw [Tryd.params3] at ht
        have hm : t ∈ [22, 24, 9, 9, 3, 4] := by simpa using Array.mem_of_getElem? ht
        have hall : ([22, 24, 9, 9, 3, 4].all fun u => !Tryd.prog.wantsStandIn u) = true := by kernel_rfl
        exact (show Tryd.prog.wantsStandIn t = false by simpa using List.all_eq_true.1 hall t hm)⟩)
    (by kernel_rfl)
#print axioms tokenDomains_proved
end Go.Proofs.YtoonmogjjddeeaaDoor

