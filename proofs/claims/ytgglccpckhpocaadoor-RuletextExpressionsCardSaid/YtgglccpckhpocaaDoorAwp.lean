/-
The order in which the examples' last line is walked.
Conditions: none.
-/
import Derived.Test.YtgglccpckhpocaaDoorQj
set_option linter.unusedSimpArgs false
set_option linter.unusedVariables false
namespace Go.Vm
theorem MeantA.planO [dd : DefD] {c : CxA} {id : Nat} {ops : Array Oper} {k : List It} {ρ : Env} {A : AH} (pl : List (Nat × Nat)) (As : AH) (hAs : SubA As A) (hm : c.P.follows .mixedOrders = true) (hs : Region.noSelect ops = true) (hl : pl.length = ops.size) (hrs : resetsOk ops (rsOf pl) = true) (hpl : planSB c.imp ops (rsOf pl) pl (Array.replicate ops.size false) = true)
    (hok : okK c.P c.imp c.plans k = true) (hd : ∀ O : List Oper, O = stripL ops.toList → ∀ ν, Fresh ν A → denSA c.P c.imp c.n O pl As ν 0 ρ A fun ν n ρ' A => denA c k ν n ρ' A) : @MeantA dd c (.code (.region id ops true) :: k) ρ A () :=
  MeantA.plan pl As hAs hm hs hl hrs hpl hok fun ν fr => by
    rw [← denSA_strip]
    exact hd _ rfl ν fr
theorem op_at {O L : List Oper} (h : O = L) (i : Nat) : O[i]? = L[i]? := by rw [h]
theorem slot_at {O : List Oper} {i : Nat} {o : Oper} (h : O[i]? = some o) : slotOf O i = o.dst := by unfold slotOf; rw [h]
end Go.Vm
namespace Go.Proofs.YtgglccpckhpocaaDoor
open Go.Vm
set_option maxRecDepth 20000
noncomputable def awOps : Array Oper := match Tryd.f6.body with
  | some (.seq _ (.seq _ (.seq _ (.seq _ (.seq _ (.seq _ (.seq _ (.seq (.region _ o _) _)))))))) => o
  | _ => #[]
def awPl : List (Nat × Nat) := [(0, 0), (1, 0), (2, 0), (3, 0), (4, 0), (5, 0), (6, 0), (7, 0), (8, 0), (9, 0), (10, 0), (11, 0), (12, 0), (13, 0), (14, 0), (15, 0), (16, 0), (17, 0), (18, 0), (19, 0), (20, 0), (21, 0), (22, 0), (23, 0), (24, 0), (25, 0), (26, 0), (27, 0), (28, 0), (29, 0), (30, 0), (31, 0), (32, 0), (33, 0), (34, 0), (37, 0), (35, 1), (36, 0), (38, 1), (39, 1), (40, 0), (41, 0), (42, 0), (43, 0), (44, 0), (45, 0), (46, 0), (47, 0), (48, 0), (49, 0), (50, 0), (51, 0), (52, 0), (53, 0), (54, 0), (55, 0), (56, 0), (57, 0), (58, 0), (59, 0), (60, 0), (61, 1), (62, 0), (63, 1), (64, 0), (65, 0), (66, 0), (67, 0), (68, 0), (69, 0), (70, 0), (71, 0), (72, 0)]
theorem aw_plan : planSB ⟨[10, 9, 13], none⟩ awOps (rsOf awPl) awPl (Array.replicate awOps.size false) = true := by kernel_rfl
end Go.Proofs.YtgglccpckhpocaaDoor
