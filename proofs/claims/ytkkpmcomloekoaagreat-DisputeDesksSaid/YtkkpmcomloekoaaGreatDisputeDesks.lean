/-
DisputeDesks returns true for every input, and leaves what was there as it was.
Conditions: none.
-/
import Derived.Test.YtkkpmcomloekoaaGreatRows
import Derived.WalkKit
import Derived.ProofKit
import Derived.OpenShut
import Derived.ShutString
import Derived.ChangeOld
import Derived.ChangeMaps
import Derived.Below
import Derived.Test.YtkkpmcomloekoaaGreatRkC
namespace Go.Proofs.YtkkpmcomloekoaaGreat.disputeDesksDone
open Go.ChangeShapes Go.WideShapes Go.ChangeAt Go.RowKit
open Go.ChangeMaps (open_string shut_string)
open Go.Vm (below_of_grew CallsH.calls)
set_option linter.unusedVariables false

theorem own : ownKnob Tryz.prog.godebug = none := by kernel_rfl
theorem laidOut : laidOutB Tryz.prog = true := by kernel_rfl

theorem walk (w : World) (a0 : Option Addr) (len0 cap0 : Nat) (w0 : Vm.Fits w.heap ((.sl 7 (.st 7 [(0, 1, .str), (1, 1, .int .i64), (2, 1, .int .i64), (3, 1, .int .i64), (4, 1, .int .i64), (5, 1, .sl 1 .str), (6, 1, .sl 1 .str)]))) [.slice a0 len0 cap0]) (a1 : Option Addr) (len1 cap1 : Nat) (w1 : Vm.Fits w.heap ((.sl 19 (.st 19 [(0, 1, .int .u8), (1, 1, .str), (2, 1, .str), (3, 12, (.st 12 [(0, 1, .int .i64), (1, 1, .str), (2, 1, .str), (3, 1, .str), (4, 1, .str), (5, 1, .str), (6, 1, .str), (7, 2, .st 2 [(0, 1, .int .i64), (1, 1, .str)]), (9, 1, .int .i64), (10, 1, .int .i64), (11, 1, .bool)])), (15, 1, .int .i64), (16, 1, .int .i64), (17, 1, .int .i64), (18, 1, .sl 3 (.st 3 [(0, 1, .str), (1, 1, .int .i64), (2, 1, .int .u64)]))]))) [.slice a1 len1 cap1]) : Calls Tryz.prog 3 #[.slice a0 len0 cap0, .slice a1 len1 cap1] w fun e w' => e = .returned (.bool true) ∧ Below w.heap.size w w' :=
  (desks_walk w.heap a0 len0 cap0 w0 a1 len1 cap1 w1).calls.mono fun e w' ⟨⟨h1, h2⟩, h3⟩ => ⟨h1, below_of_grew h2 h3⟩

set_option maxRecDepth 100000 in
theorem lifted (os : Os) (started : os.Started) (H : Type) (enc : TypeId × Value → H) :
    ReturnsInHanded {} Tryz.checked os 3 .any (Rows.disputeDesksSpec.pre6 enc Tryz.prog Tryz.f3 Rows.disputeDesksRow.domain false) (Rows.disputeDesksSpec.post enc Tryz.prog Tryz.f3 false true false false) := by
  refine returnsInHanded_of_change (C := Tryz.checked) own started (by kernel_rfl) Tryz.func3
    (ChangeSpec.witness6 (enc := enc) (C := Tryz.checked) false ⟨#[], #[.slice none 0 0, .slice none 0 0], []⟩ 8 (by kernel_rfl) (by kernel_rfl) (by kernel_rfl) (by kernel_rfl)) ?_
  intro W base args ds gs before hval0 hW hcnd _
  have hval : ∀ (j : Nat) t v, Tryz.f3.params[j]? = some t → args[j]? = some v → Value.okWide Tryz.prog W .any base t v := hval0
  have hW' := hW
  obtain ⟨p, q, hA0, hV, rfl, hfz, hnd⟩ := hW
  have hA : DataW.TrodAll enc Tryz.prog W 0 (fun _ => true) true Tryz.f3.params.toList args.toList ds p := hA0
  rw [Tryz.params3] at hA hval
  obtain ⟨v0, vs0, d0, ds0, p0, q0, hargs, rfl, rfl, h0, r0⟩ := trodAll_cons hA
  obtain ⟨v1, vs1, d1, ds1, p1, q1, rfl, rfl, rfl, h1, r1⟩ := trodAll_cons r0
  obtain ⟨rfl, rfl, rfl⟩ := trodAll_nil r1
  obtain rfl : args = #[v0, v1] := by cases args; simp_all
  obtain ⟨rfl, rfl⟩ := trodVars_none hV
  obtain ⟨a0, len0, cap0, rfl⟩ := okWide_slice Tryz.underlying22 (hval 0 22 v0 rfl rfl)
  have k0 := h0
  have lt0 : ∀ x ∈ p0, x.block < W.heap.size := by obtain ⟨m, hm⟩ := k0; exact DataW.trod_lt m _ _ _ hm
  have w0 : Vm.Fits W.heap ((.sl 7 (.st 7 [(0, 1, .str), (1, 1, .int .i64), (2, 1, .int .i64), (3, 1, .int .i64), (4, 1, .int .i64), (5, 1, .sl 1 .str), (6, 1, .sl 1 .str)]))) [.slice a0 len0 cap0] := Vm.fits_trod ((.sl 7 (.st 7 [(0, 1, .str), (1, 1, .int .i64), (2, 1, .int .i64), (3, 1, .int .i64), (4, 1, .int .i64), (5, 1, .sl 1 .str), (6, 1, .sl 1 .str)]))) (by kernel_rfl) h0
  obtain ⟨a1, len1, cap1, rfl⟩ := okWide_slice Tryz.underlying23 (hval 1 23 v1 rfl rfl)
  have k1 := h1
  have lt1 : ∀ x ∈ p1, x.block < W.heap.size := by obtain ⟨m, hm⟩ := k1; exact DataW.trod_lt m _ _ _ hm
  have w1 : Vm.Fits W.heap ((.sl 19 (.st 19 [(0, 1, .int .u8), (1, 1, .str), (2, 1, .str), (3, 12, (.st 12 [(0, 1, .int .i64), (1, 1, .str), (2, 1, .str), (3, 1, .str), (4, 1, .str), (5, 1, .str), (6, 1, .str), (7, 2, .st 2 [(0, 1, .int .i64), (1, 1, .str)]), (9, 1, .int .i64), (10, 1, .int .i64), (11, 1, .bool)])), (15, 1, .int .i64), (16, 1, .int .i64), (17, 1, .int .i64), (18, 1, .sl 3 (.st 3 [(0, 1, .str), (1, 1, .int .i64), (2, 1, .int .u64)]))]))) [.slice a1 len1 cap1] := Vm.fits_trod ((.sl 19 (.st 19 [(0, 1, .int .u8), (1, 1, .str), (2, 1, .str), (3, 12, (.st 12 [(0, 1, .int .i64), (1, 1, .str), (2, 1, .str), (3, 1, .str), (4, 1, .str), (5, 1, .str), (6, 1, .str), (7, 2, .st 2 [(0, 1, .int .i64), (1, 1, .str)]), (9, 1, .int .i64), (10, 1, .int .i64), (11, 1, .bool)])), (15, 1, .int .i64), (16, 1, .int .i64), (17, 1, .int .i64), (18, 1, .sl 3 (.st 3 [(0, 1, .str), (1, 1, .int .i64), (2, 1, .int .u64)]))]))) (by kernel_rfl) h1
  clear hA0 hval0
  refine (walk W a0 len0 cap0 w0 a1 len1 cap1 w1).mono fun e W' ⟨he, bel⟩ => ?_
  subst he
  exact ⟨_, rfl, _, _, _, [], _, [], hW', trodAll_mk1 (shut_bool Tryz.underlying4 _), (trodAll_cons_mk (Below.trod laidOut (by kernel_rfl) (of_decide_eq_true (by kernel_rfl)) k0 bel lt0) (trodAll_cons_mk (Below.trod laidOut (by kernel_rfl) (of_decide_eq_true (by kernel_rfl)) k1 bel lt1) trodAll_mk0)), rfl, bel.frame _, fun h => by cases h⟩

theorem over : Rows.disputeDesksRow.holds Tryz.pinned (OpenSpec.ofChange Rows.disputeDesksSpec) :=
  OpenClaim.holds_of_wide 3 Tryz.f3 rfl rfl rfl rfl rfl rfl rfl ⟨rfl, rfl, rfl, rfl, rfl⟩ rfl rfl rfl rfl rfl (by kernel_rfl) Tryz.func3 (by kernel_rfl)
    (of_decide_eq_true (by kernel_rfl)) (by unfold Func.isWrapper; first | (rw [if_pos (by decide +kernel)]; kernel_rfl) | (rw [if_neg (by decide +kernel)]; exact ⟨rfl, rfl⟩))
    (fun os started H enc _ => lifted os started H enc)
end Go.Proofs.YtkkpmcomloekoaaGreat.disputeDesksDone
namespace Go.Proofs.YtkkpmcomloekoaaGreat
theorem disputeDesks_proved : Rows.DisputeDesksSaid := disputeDesksDone.over
#print axioms disputeDesks_proved
end Go.Proofs.YtkkpmcomloekoaaGreat

