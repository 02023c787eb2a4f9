/-
Parse of fee tables.
Conditions: none.
-/
import Derived.Test.YtfphceknmgadgaaDoorQj
import Derived.Test.YtfphceknmgadgaaDoorVmDf
import Derived.Tactics
import Derived.Tactics2
import Derived.Test.YtfphceknmgadgaaDoorQi
import Derived.Deep.LoopGhost
set_option linter.unusedSimpArgs false
set_option linter.unusedVariables false
namespace Go.Vm
theorem wpList_ta [dd : DefD] {P : Program} {n : Nat} {ρ : Env} {Q : Exit → Act → World → Prop} {a : Act} {w : World} {l : Array Oper} {tl : List Oper} {d : Nat} {x : Operand} {t0 tt ty : TypeId} {pos : String} {aft : Array Edge} {v r : Value} (hk : OkE n ρ a) (hx : evO ρ x = some v) (hd : d < n)
    (hr : (Instr.typeAssert v t0 tt true).run P w = .ok r w) (h : ∀ a', OkE n ((d, some r) :: ρ) a' → wpList P l Q tl a' w) : wpList P l Q (⟨some d, .typeAssert x t0 tt true, ty, pos, aft, none⟩ :: tl) a w := by
  have hrun : (execOp a.eval ⟨some d, .typeAssert x t0 tt true, ty, pos, aft, none⟩).run P w = .ok (.value r) w := by
    simp only [execOp, evO_eval hk hx, Sem.run_bind, hr, Result.andThen_ok, Sem.run_pure]
  unfold wpList
  rw [if_pos (by simp [Region.wanted])]
  refine .inl ?_
  unfold Oper.wp
  rw [hrun]
  simp only [Oper.upon]
  exact h _ (hk.put hd r)
end Go.Vm
namespace Go.Proofs.YtfphceknmgadgaaDoor
open Go.Vm
set_option maxHeartbeats 4000000
set_option maxRecDepth 20000
theorem vbQk : type_of% (An @slIndexByte_v (An @indexByte_v (An @indexRune_v (An @containsRune_v (An @slHasPrefix_v (An @hasPrefix_v (An @classOf_v (An @isWordByte_v (An @wordAt_v (An @skip_v (An @number_v (An @literal_v (An @lexemeAt_v (An @isName_v (An @resV_v (An @fDigit_v (An @fInWord_v (An @aDig_v (An @aftV_v (An @fracV_v (An @frn_v (An @fallD_v (An @hund_v (An @hasS_v (An @cutL_v (An @cutS_v (An @idxP_v (An @cutI_v (An @cutV_v @ppV_v))))))))))))))))))))))))))))) := ⟨@slIndexByte_v, @indexByte_v, @indexRune_v, @containsRune_v, @slHasPrefix_v, @hasPrefix_v, @classOf_v, @isWordByte_v, @wordAt_v, @skip_v, @number_v, @literal_v, @lexemeAt_v, @isName_v, @resV_v, @fDigit_v, @fInWord_v, @aDig_v, @aftV_v, @fracV_v, @frn_v, @fallD_v, @hund_v, @hasS_v, @cutL_v, @cutS_v, @idxP_v, @cutI_v, @cutV_v, @ppV_v⟩
theorem fp_pan (b2 b3 b4 : Nat) (v2 : Value) (e at_ e0 a0 : Int) (A : AH) (w : World) (hs : Sat ((b2, .cells #[v2] 24) :: (b3, .cells #[.int .i64 e0] 25) :: (b4, .cells #[.int .i64 a0] 3) :: A) w.heap) (h23 : (b2 = b3) = False) (h24 : (b2 = b4) = False) (h34 : (b3 = b4) = False) : CallsD Tryd.prog 9 #[.pointer (some ⟨b2, 0, none⟩), .pointer (some ⟨b3, 0, none⟩), .pointer (some ⟨b4, 0, none⟩)] (.panicking (ffl e at_)) w fun en u w' => en = .returned (.tuple #[]) ∧ u = .panicking [{ v := (.iface 39 (.agg #[.int .i64 e, .int .i64 at_])), recovered := true }] ∧ Sat ((b2, .cells #[.slice none 0 0] 24) :: (b3, .cells #[.int .i64 e] 25) :: (b4, .cells #[.int .i64 at_] 3) :: A) w'.heap ∧ Keep ((b2, .cells #[v2] 24) :: (b3, .cells #[.int .i64 e0] 25) :: (b4, .cells #[.int .i64 a0] 3) :: A) w.heap ((b2, .cells #[.slice none 0 0] 24) :: (b3, .cells #[.int .i64 e] 25) :: (b4, .cells #[.int .i64 at_] 3) :: A) w'.heap ∧ Vm.Rest w w' := by
  refine callsD_of_wpS Tryd.func9 rfl fun c₀ cs hu => ?_
  apply wpS_seq
  apply wpS_region
  simp [wpOpsS, go_sem, recoverD, hu, Tryd.ntmps9, Exit.thenS, ffl]
  refine wpS_of_wp (wp_seq ?_)
  refine wp_region ?_
  simp [wpOps, go_sem, Exit.then, Exit.inBlock, Array.replicate]
  refine .inl (.inl ?_)
  refine wp_cond (t := true) (by simp [Act.eval]) ?_
  simp only [if_true]
  refine wp_seq ?_
  refine wp_region_lit ?_
  refine wpList_opW (dd := dd0) (imp := ⟨[], none⟩) (n := 21) (A := ((b2, .cells #[v2] 24) :: (b3, .cells #[.int .i64 e0] 25) :: (b4, .cells #[.int .i64 a0] 3) :: A)) (ρ := (3, some (.iface 39 (.agg #[.int .i64 e, .int .i64 at_]))) :: [(0, some (.pointer (some ⟨b2, 0, none⟩))), (1, some (.pointer (some ⟨b3, 0, none⟩))), (2, some (.pointer (some ⟨b4, 0, none⟩)))]) (KK := fun ρ' A' => ρ' = (10, some (.iface 39 (.agg #[.int .i64 e, .int .i64 at_]))) :: (3, some (.iface 39 (.agg #[.int .i64 e, .int .i64 at_]))) :: [(0, some (.pointer (some ⟨b2, 0, none⟩))), (1, some (.pointer (some ⟨b3, 0, none⟩))), (2, some (.pointer (some ⟨b4, 0, none⟩)))] ∧ A' = ((b2, .cells #[v2] 24) :: (b3, .cells #[.int .i64 e0] 25) :: (b4, .cells #[.int .i64 a0] 3) :: A)) rfl ?_ hs ?_ ?_ ?_
  · refine ⟨rfl, by simp, fun t v h => ?_⟩
    simp only [Vm.get] at h
    split at h
    · rename_i q; subst q; simpa using h
    · split at h
      · rename_i q; subst q; simpa using h
      · split at h
        · rename_i q; subst q; simpa using h
        · split at h
          · rename_i q; subst q; simpa using h
          · cases h
  · intro ν fr
    have nuE := fr.nu
    simp (maxDischargeDepth := 16) only [evN, ↓evP, simprocAttr, forall_const, nuE, fr.2, vbQk]
  · rintro ch w' ⟨X0, A', h1, _⟩ _
    cases h1
  rintro ρ' A' a1 w1 ⟨rfl, rfl⟩ hk1 hs1 kp1 rr1
  refine wpList_ta (dd := dd0) (v := (.iface 39 (.agg #[.int .i64 e, .int .i64 at_]))) (r := .tuple #[.agg #[.int .i64 e, .int .i64 at_], .bool true]) hk1 rfl (by decide) (by simp [Instr.typeAssert, go_sem]) ?_
  intro a2 hk2
  have hk2 : @OkE dd0 21 ((11, some (.tuple #[.agg #[.int .i64 e, .int .i64 at_], .bool true])) :: [(0, some (.pointer (some ⟨b2, 0, none⟩))), (1, some (.pointer (some ⟨b3, 0, none⟩))), (2, some (.pointer (some ⟨b4, 0, none⟩)))]) a2 := OkE.weak (dd := dd0) hk2 (by simp only [subE, get_cons, Nat.reduceEqDiff, ↓reduceIte, reduceCtorEq, Nat.reduceAdd, and_self, and_true])
  refine wpList_opW (dd := dd0) (imp := ⟨[], none⟩) (n := 21) (A := ((b2, .cells #[v2] 24) :: (b3, .cells #[.int .i64 e0] 25) :: (b4, .cells #[.int .i64 a0] 3) :: A)) (ρ := (11, some (.tuple #[.agg #[.int .i64 e, .int .i64 at_], .bool true])) :: [(0, some (.pointer (some ⟨b2, 0, none⟩))), (1, some (.pointer (some ⟨b3, 0, none⟩))), (2, some (.pointer (some ⟨b4, 0, none⟩)))]) (KK := fun ρ' A' => ρ' = (9, some (.tuple #[.agg #[.int .i64 e, .int .i64 at_], .bool true])) :: (11, some (.tuple #[.agg #[.int .i64 e, .int .i64 at_], .bool true])) :: [(0, some (.pointer (some ⟨b2, 0, none⟩))), (1, some (.pointer (some ⟨b3, 0, none⟩))), (2, some (.pointer (some ⟨b4, 0, none⟩)))] ∧ A' = ((b2, .cells #[v2] 24) :: (b3, .cells #[.int .i64 e0] 25) :: (b4, .cells #[.int .i64 a0] 3) :: A)) rfl hk2 hs1 ?_ ?_ ?_
  · intro ν fr
    have nuE := fr.nu
    simp (maxDischargeDepth := 16) only [evN, ↓evP, simprocAttr, forall_const, nuE, fr.2, vbQk, h23, h24, h34]
  · rintro ch w' ⟨X0, A', h1, _⟩ _
    cases h1
  rintro ρ' A' a3 w3 ⟨rfl, rfl⟩ hk3 hs3 kp3 rr3
  have hk3 : @OkE dd0 21 ((9, some (.tuple #[.agg #[.int .i64 e, .int .i64 at_], .bool true])) :: [(0, some (.pointer (some ⟨b2, 0, none⟩))), (1, some (.pointer (some ⟨b3, 0, none⟩))), (2, some (.pointer (some ⟨b4, 0, none⟩)))]) a3 := OkE.weak (dd := dd0) hk3 (by simp only [subE, get_cons, Nat.reduceEqDiff, ↓reduceIte, reduceCtorEq, Nat.reduceAdd, and_self, and_true])
  refine wpList_opW (dd := dd0) (imp := ⟨[], none⟩) (n := 21) (A := ((b2, .cells #[v2] 24) :: (b3, .cells #[.int .i64 e0] 25) :: (b4, .cells #[.int .i64 a0] 3) :: A)) (ρ := (9, some (.tuple #[.agg #[.int .i64 e, .int .i64 at_], .bool true])) :: [(0, some (.pointer (some ⟨b2, 0, none⟩))), (1, some (.pointer (some ⟨b3, 0, none⟩))), (2, some (.pointer (some ⟨b4, 0, none⟩)))]) (KK := fun ρ' A' => ρ' = (12, some (.agg #[.int .i64 e, .int .i64 at_])) :: (9, some (.tuple #[.agg #[.int .i64 e, .int .i64 at_], .bool true])) :: [(0, some (.pointer (some ⟨b2, 0, none⟩))), (1, some (.pointer (some ⟨b3, 0, none⟩))), (2, some (.pointer (some ⟨b4, 0, none⟩)))] ∧ A' = ((b2, .cells #[v2] 24) :: (b3, .cells #[.int .i64 e0] 25) :: (b4, .cells #[.int .i64 a0] 3) :: A)) rfl hk3 hs3 ?_ ?_ ?_
  · intro ν fr
    have nuE := fr.nu
    simp (maxDischargeDepth := 16) only [evN, ↓evP, simprocAttr, forall_const, nuE, fr.2, vbQk, h23, h24, h34]
  · rintro ch w' ⟨X0, A', h1, _⟩ _
    cases h1
  rintro ρ' A' a4 w4 ⟨rfl, rfl⟩ hk4 hs4 kp4 rr4
  refine wpList_opW (dd := dd0) (imp := ⟨[], none⟩) (n := 21) (A := ((b2, .cells #[v2] 24) :: (b3, .cells #[.int .i64 e0] 25) :: (b4, .cells #[.int .i64 a0] 3) :: A)) (ρ := (12, some (.agg #[.int .i64 e, .int .i64 at_])) :: (9, some (.tuple #[.agg #[.int .i64 e, .int .i64 at_], .bool true])) :: [(0, some (.pointer (some ⟨b2, 0, none⟩))), (1, some (.pointer (some ⟨b3, 0, none⟩))), (2, some (.pointer (some ⟨b4, 0, none⟩)))]) (KK := fun ρ' A' => ρ' = (13, some (.bool true)) :: (12, some (.agg #[.int .i64 e, .int .i64 at_])) :: (9, some (.tuple #[.agg #[.int .i64 e, .int .i64 at_], .bool true])) :: [(0, some (.pointer (some ⟨b2, 0, none⟩))), (1, some (.pointer (some ⟨b3, 0, none⟩))), (2, some (.pointer (some ⟨b4, 0, none⟩)))] ∧ A' = ((b2, .cells #[v2] 24) :: (b3, .cells #[.int .i64 e0] 25) :: (b4, .cells #[.int .i64 a0] 3) :: A)) rfl hk4 hs4 ?_ ?_ ?_
  · intro ν fr
    have nuE := fr.nu
    simp (maxDischargeDepth := 16) only [evN, ↓evP, simprocAttr, forall_const, nuE, fr.2, vbQk, h23, h24, h34]
  · rintro ch w' ⟨X0, A', h1, _⟩ _
    cases h1
  rintro ρ' A' a5 w5 ⟨rfl, rfl⟩ hk5 hs5 kp5 rr5
  have hk5 : @OkE dd0 21 ((13, some (.bool true)) :: (12, some (.agg #[.int .i64 e, .int .i64 at_])) :: [(0, some (.pointer (some ⟨b2, 0, none⟩))), (1, some (.pointer (some ⟨b3, 0, none⟩))), (2, some (.pointer (some ⟨b4, 0, none⟩)))]) a5 := OkE.weak (dd := dd0) hk5 (by simp only [subE, get_cons, Nat.reduceEqDiff, ↓reduceIte, reduceCtorEq, Nat.reduceAdd, and_self, and_true])
  refine wpList_opW (dd := dd0) (imp := ⟨[], none⟩) (n := 21) (A := ((b2, .cells #[v2] 24) :: (b3, .cells #[.int .i64 e0] 25) :: (b4, .cells #[.int .i64 a0] 3) :: A)) (ρ := (13, some (.bool true)) :: (12, some (.agg #[.int .i64 e, .int .i64 at_])) :: [(0, some (.pointer (some ⟨b2, 0, none⟩))), (1, some (.pointer (some ⟨b3, 0, none⟩))), (2, some (.pointer (some ⟨b4, 0, none⟩)))]) (KK := fun ρ' A' => ∃ b, ρ' = (4, some (.pointer (some ⟨b, 0, none⟩))) :: (13, some (.bool true)) :: (12, some (.agg #[.int .i64 e, .int .i64 at_])) :: [(0, some (.pointer (some ⟨b2, 0, none⟩))), (1, some (.pointer (some ⟨b3, 0, none⟩))), (2, some (.pointer (some ⟨b4, 0, none⟩)))] ∧ A' = (b, .cells #[.int .i64 0, .int .i64 0] 39) :: ((b2, .cells #[v2] 24) :: (b3, .cells #[.int .i64 e0] 25) :: (b4, .cells #[.int .i64 a0] 3) :: A) ∧ Vm.look ((b2, .cells #[v2] 24) :: (b3, .cells #[.int .i64 e0] 25) :: (b4, .cells #[.int .i64 a0] 3) :: A) b = none) rfl hk5 hs5 ?_ ?_ ?_
  · intro ν fr
    have nuE := fr.nu
    simp (maxDischargeDepth := 16) only [evN, ↓evP, simprocAttr, forall_const, nuE, fr.2, vbQk, h23, h24, h34]
    exact ⟨ν 0, rfl, rfl, fr.2 0⟩
  · rintro ch w' ⟨X0, A', h1, _⟩ _
    cases h1
  rintro ρ' A' a6 w6 ⟨b, rfl, rfl, hb⟩ hk6 hs6 kp6 rr6
  have hb2 : (b = b2) = False ∧ (b2 = b) = False := look_ne hb (show Vm.look ((b2, .cells #[v2] 24) :: (b3, .cells #[.int .i64 e0] 25) :: (b4, .cells #[.int .i64 a0] 3) :: A) b2 = some (.cells #[v2] 24) by simp [Vm.look])
  have hb3 : (b = b3) = False ∧ (b3 = b) = False := look_ne hb (show Vm.look ((b2, .cells #[v2] 24) :: (b3, .cells #[.int .i64 e0] 25) :: (b4, .cells #[.int .i64 a0] 3) :: A) b3 = some (.cells #[.int .i64 e0] 25) by simp [Vm.look, h23])
  have hb4 : (b = b4) = False ∧ (b4 = b) = False := look_ne hb (show Vm.look ((b2, .cells #[v2] 24) :: (b3, .cells #[.int .i64 e0] 25) :: (b4, .cells #[.int .i64 a0] 3) :: A) b4 = some (.cells #[.int .i64 a0] 3) by simp [Vm.look, h24, h34])
  refine wpList_opW (dd := dd0) (imp := ⟨[], none⟩) (n := 21) (A := (b, .cells #[.int .i64 0, .int .i64 0] 39) :: ((b2, .cells #[v2] 24) :: (b3, .cells #[.int .i64 e0] 25) :: (b4, .cells #[.int .i64 a0] 3) :: A)) (ρ := (4, some (.pointer (some ⟨b, 0, none⟩))) :: (13, some (.bool true)) :: (12, some (.agg #[.int .i64 e, .int .i64 at_])) :: [(0, some (.pointer (some ⟨b2, 0, none⟩))), (1, some (.pointer (some ⟨b3, 0, none⟩))), (2, some (.pointer (some ⟨b4, 0, none⟩)))]) (KK := fun ρ' A' => ρ' = (4, some (.pointer (some ⟨b, 0, none⟩))) :: (13, some (.bool true)) :: (12, some (.agg #[.int .i64 e, .int .i64 at_])) :: [(0, some (.pointer (some ⟨b2, 0, none⟩))), (1, some (.pointer (some ⟨b3, 0, none⟩))), (2, some (.pointer (some ⟨b4, 0, none⟩)))] ∧ A' = (b, .cells #[.int .i64 e, .int .i64 at_] 39) :: ((b2, .cells #[v2] 24) :: (b3, .cells #[.int .i64 e0] 25) :: (b4, .cells #[.int .i64 a0] 3) :: A)) rfl hk6 hs6 ?_ ?_ ?_
  · intro ν fr
    have nuE := fr.nu
    simp (maxDischargeDepth := 16) only [evN, ↓evP, simprocAttr, forall_const, nuE, fr.2, vbQk, h23, h24, h34]
  · rintro ch w' ⟨X0, A', h1, _⟩ _
    cases h1
  rintro ρ' A' a7 w7 ⟨rfl, rfl⟩ hk7 hs7 kp7 rr7
  refine wpList_opW (dd := dd0) (imp := ⟨[], none⟩) (n := 21) (A := (b, .cells #[.int .i64 e, .int .i64 at_] 39) :: ((b2, .cells #[v2] 24) :: (b3, .cells #[.int .i64 e0] 25) :: (b4, .cells #[.int .i64 a0] 3) :: A)) (ρ := (4, some (.pointer (some ⟨b, 0, none⟩))) :: (13, some (.bool true)) :: (12, some (.agg #[.int .i64 e, .int .i64 at_])) :: [(0, some (.pointer (some ⟨b2, 0, none⟩))), (1, some (.pointer (some ⟨b3, 0, none⟩))), (2, some (.pointer (some ⟨b4, 0, none⟩)))]) (KK := fun ρ' A' => ρ' = (5, some (.bool true)) :: (4, some (.pointer (some ⟨b, 0, none⟩))) :: (13, some (.bool true)) :: (12, some (.agg #[.int .i64 e, .int .i64 at_])) :: [(0, some (.pointer (some ⟨b2, 0, none⟩))), (1, some (.pointer (some ⟨b3, 0, none⟩))), (2, some (.pointer (some ⟨b4, 0, none⟩)))] ∧ A' = (b, .cells #[.int .i64 e, .int .i64 at_] 39) :: ((b2, .cells #[v2] 24) :: (b3, .cells #[.int .i64 e0] 25) :: (b4, .cells #[.int .i64 a0] 3) :: A)) rfl hk7 hs7 ?_ ?_ ?_
  · intro ν fr
    have nuE := fr.nu
    simp (maxDischargeDepth := 16) only [evN, ↓evP, simprocAttr, forall_const, nuE, fr.2, vbQk, h23, h24, h34]
  · rintro ch w' ⟨X0, A', h1, _⟩ _
    cases h1
  rintro ρ' A' a8 w8 ⟨rfl, rfl⟩ hk8 hs8 kp8 rr8
  have hk8 : @OkE dd0 21 ((5, some (.bool true)) :: (4, some (.pointer (some ⟨b, 0, none⟩))) :: [(0, some (.pointer (some ⟨b2, 0, none⟩))), (1, some (.pointer (some ⟨b3, 0, none⟩))), (2, some (.pointer (some ⟨b4, 0, none⟩)))]) a8 := OkE.weak (dd := dd0) hk8 (by simp only [subE, get_cons, Nat.reduceEqDiff, ↓reduceIte, reduceCtorEq, Nat.reduceAdd, and_self, and_true])
  have kpA := (((((kp1.trans kp3).trans kp4).trans kp5).trans kp6).trans kp7).trans kp8
  have rrA := (((((rr1.trans rr3).trans rr4).trans rr5).trans rr6).trans rr7).trans rr8
  refine wpList_nil ?_
  simp only [Exit.then]
  refine wp_seq ?_
  refine wp_seq ?_
  refine wp_regionA (dd := dd0) (imp := ⟨[], none⟩) (KK := fun ρ' A' => subE [(15, some (.bool false)), (4, some (.pointer (some ⟨b, 0, none⟩))), (0, some (.pointer (some ⟨b2, 0, none⟩))), (1, some (.pointer (some ⟨b3, 0, none⟩))), (2, some (.pointer (some ⟨b4, 0, none⟩)))] ρ' ∧ A' = (b, .cells #[.int .i64 e, .int .i64 at_] 39) :: ((b2, .cells #[v2] 24) :: (b3, .cells #[.int .i64 e0] 25) :: (b4, .cells #[.int .i64 a0] 3) :: A)) hk8 hs8 ?_ ?_ ?_
  · intro ν fr
    have nuE := fr.nu
    simp (maxDischargeDepth := 16) only [evN, ↓evP, simprocAttr, forall_const, nuE, fr.2, vbQk]
    exact (by simp only [subE, get_cons, Nat.reduceEqDiff, ↓reduceIte, reduceCtorEq, Nat.reduceAdd, and_self, and_true])
  · rintro ch a' w' ⟨X0, A', h1, _⟩ _ _
    cases h1
  rintro ρ' A' a9 w9 ⟨hse, rfl⟩ hk9 hs9 kp9 rr9
  simp only [Exit.then]
  have hk9 := OkE.weak (dd := dd0) hk9 hse
  refine wp_cond (t := false) (evO_eval hk9 rfl) ?_
  simp only [Bool.false_eq_true, if_false]
  refine wp_skip ?_
  simp only [Exit.then]
  refine wp_regionP (dd := dd0) (imp := ⟨[], none⟩) (KK := fun ρ' A' => A' = (b, .cells #[.int .i64 e, .int .i64 at_] 39) :: ((b2, .cells #[.slice none 0 0] 24) :: (b3, .cells #[.int .i64 e] 25) :: (b4, .cells #[.int .i64 at_] 3) :: A)) [(0, 0), (1, 0), (2, 0), (3, 0), (4, 0), (5, 0), (6, 2)] [(b, .cells #[.int .i64 e, .int .i64 at_] 39)] (SubA.left [_] _) (by kernel_rfl) (by kernel_rfl) (by kernel_rfl) (by kernel_rfl) (by kernel_rfl) hk9 hs9 ?_ ?_ ?_ ?_
  · intro ν fr
    have nuE := fr.nu
    simp (maxDischargeDepth := 16) only [evN, ↓evP, simprocAttr, forall_const, nuE, fr.2, vbQk, hb2, hb3, hb4, h23, h24, h34]
  · rintro ch a' w' ⟨X0, A', h1, _⟩ _ _
    cases h1
  · intro c a w dst v h
    cases dst <;> exact h
  rintro ρ' A' a10 w10 rfl hk10 hs10 kp10 rr10
  have hsub : SubA ((b2, .cells #[.slice none 0 0] 24) :: (b3, .cells #[.int .i64 e] 25) :: (b4, .cells #[.int .i64 at_] 3) :: A) ((b, .cells #[.int .i64 e, .int .i64 at_] 39) :: ((b2, .cells #[.slice none 0 0] 24) :: (b3, .cells #[.int .i64 e] 25) :: (b4, .cells #[.int .i64 at_] 3) :: A)) := SubA.fresh (by simpa [Vm.look, hb2, hb3, hb4] using hb) (SubA.refl _)
  exact ⟨hk10.1, .panicking [{ v := (.iface 39 (.agg #[.int .i64 e, .int .i64 at_])), recovered := true }], rfl, .tuple #[], by simp [results, Tryd.results9, go_sem], rfl, rfl, hs10.sub hsub, ((kpA.trans kp9).trans kp10).sub hsub, (rrA.trans rr9).trans rr10⟩
theorem fp_idle (b2 b3 b4 : Nat) (w : World) : CallsD Tryd.prog 9 #[.pointer (some ⟨b2, 0, none⟩), .pointer (some ⟨b3, 0, none⟩), .pointer (some ⟨b4, 0, none⟩)] .returning w fun en u w' => en = .returned (.tuple #[]) ∧ u = .returning ∧ w' = w := by
  refine callsD_of_wpS Tryd.func9 rfl fun c₀ cs hu => ?_
  apply wpS_seq
  apply wpS_region
  simp [wpOpsS, go_sem, recoverD, hu, Tryd.ntmps9, Exit.thenS]
  refine wpS_of_wp (wp_seq ?_)
  refine wp_region ?_
  simp [wpOps, go_sem, Exit.then, Exit.inBlock, Array.replicate]
  refine .inl (.inl ?_)
  refine wp_cond (t := false) (by simp [Act.eval]) ?_
  simp only [Bool.false_eq_true, if_false]
  refine wp_skip ?_
  simp [bodyPostS, results, Tryd.results9]
  cases c₀
  simp_all
end Go.Proofs.YtfphceknmgadgaaDoor
namespace Go.Proofs.YtfphceknmgadgaaDoor
open Go.Vm
set_option maxHeartbeats 4000000
set_option maxRecDepth 20000
def AllF (A : AH) (us : List Fu) (rs : List Fuv) : Prop := ∀ (k : Nat) (u : Fu) (r : Fuv), us[k]? = some u → rs[k]? = some r → FuR A u r
theorem AllF.mono {A B : AH} {us : List Fu} {rs : List Fuv} (h : AllF A us rs) (hs : SubA A B) : AllF B us rs := fun k u r h1 h2 => (h k u r h1 h2).mono hs
theorem AllF.push {A : AH} {us : List Fu} {rs : List Fuv} {u : Fu} {r : Fuv} (h : AllF A us rs) (hl : rs.length = us.length) (hu : FuR A u r) : AllF A (us ++ [u]) (rs ++ [r]) := by
  intro m y s hy hs
  by_cases hm : m < us.length
  · rw [List.getElem?_append_left hm] at hy
    rw [List.getElem?_append_left (by omega)] at hs
    exact h m y s hy hs
  · rw [List.getElem?_append_right (by omega)] at hy hs
    rw [hl] at hs
    generalize m - us.length = q at hy hs
    match q with
    | 0 => simp at hy hs; subst hy; subst hs; exact hu
    | q + 1 => simp at hy
def FuL (B : AH) (us : List Fu) (p : Option Addr) : Prop := ∃ rs : List Fuv, rs.length = us.length ∧ StR fuC 10 B p rs ∧ AllF B us rs
theorem FuL.mono {A B : AH} {us : List Fu} {p : Option Addr} (h : FuL A us p) (hs : SubA A B) : FuL B us p := by
  obtain ⟨rs, h1, h2, h3⟩ := h
  exact ⟨rs, h1, h2.mono hs, h3.mono hs⟩
def ParP (s : ByteArray) (v : Value) (B : AH) : Prop := ∃ e at_ us p cap, PfO s e at_ us ∧ us.length ≤ 64 ∧ us.length ≤ cap ∧ v = .tuple #[.slice p us.length cap, .int .i64 e, .int .i64 (at_ : Nat)] ∧ FuL B us p
def ParK (s : ByteArray) (u : Value) (D : AH) : Prop := ∃ v B, u = v ∧ ParP s v B ∧ Dis B [] ∧ SubA (B ++ []) D
theorem fp_end {a : Act} {w w0 : World} {ρ : Env} {dd : DefD} {base A : AH} {b2 b3 b4 : Nat} {v2 : Value} {e at_ : Int} {K : Value → AH → Prop} (hk : @OkE dd 36 ρ a) (h2 : Vm.get ρ 2 = some (.pointer (some ⟨b2, 0, none⟩))) (h3 : Vm.get ρ 3 = some (.pointer (some ⟨b3, 0, none⟩))) (h4 : Vm.get ρ 4 = some (.pointer (some ⟨b4, 0, none⟩)))
    (l2 : Vm.look A b2 = some (.cells #[v2] 24)) (l3 : Vm.look A b3 = some (.cells #[.int .i64 e] 25)) (l4 : Vm.look A b4 = some (.cells #[.int .i64 at_] 3)) (hs : Sat A w.heap) (hkp : Keep base w0.heap A w.heap) (hr : Vm.Rest w0 w) (hK : K (.tuple #[v2, .int .i64 e, .int .i64 at_]) A) :
    Leaves Tryd.prog Tryd.f5 a.tmps (fun en w' => ResA base w0.heap K en w'.heap ∧ Vm.Rest w0 w') [] .returning w := by
  have hv : resLA Tryd.prog ρ A Tryd.f5.results.toList = some [v2, .int .i64 e, .int .i64 at_] := by
    rw [Tryd.results5]
    obtain ⟨ν, fr⟩ : ∃ ν, Fresh ν A := ⟨fun i => w.heap.size + i, ⟨fun i j h => by simpa using h, fun i => hs.none_of_size (by simp)⟩⟩
    have nuE := fr.nu
    simp (maxDischargeDepth := 16) only [evN, ↓evP, simprocAttr, forall_const, nuE, fr.2, vbQk, h2, h3, h4, l2, l3, l4]
  exact ⟨_, results_sound hk (resLA_to hs hv), ⟨_, A, rfl, hs, hkp, hK⟩, hr⟩
theorem fp_fine {a : Act} {w w0 : World} {ρ : Env} {base A : AH} {b2 b3 b4 : Nat} {v2 : Value} {e at_ : Int} {K : Value → AH → Prop} (hk : @OkE (⟨[{ target := .fn (.func 9) #[.pointer (some ⟨b2, 0, none⟩), .pointer (some ⟨b3, 0, none⟩), .pointer (some ⟨b4, 0, none⟩)], args := #[] }], .normal⟩ : DefD) 36 ρ a) (h2 : Vm.get ρ 2 = some (.pointer (some ⟨b2, 0, none⟩))) (h3 : Vm.get ρ 3 = some (.pointer (some ⟨b3, 0, none⟩))) (h4 : Vm.get ρ 4 = some (.pointer (some ⟨b4, 0, none⟩)))
    (l2 : Vm.look A b2 = some (.cells #[v2] 24)) (l3 : Vm.look A b3 = some (.cells #[.int .i64 e] 25)) (l4 : Vm.look A b4 = some (.cells #[.int .i64 at_] 3)) (hs : Sat A w.heap) (hkp : Keep base w0.heap A w.heap) (hr : Vm.Rest w0 w) (hK : K (.tuple #[v2, .int .i64 e, .int .i64 at_]) A) :
    Leaves Tryd.prog Tryd.f5 a.tmps (fun en w' => ResA base w0.heap K en w'.heap ∧ Vm.Rest w0 w') a.defers .returning w := by
  rw [hk.1]
  refine leaves_cons (by simp) (callable_run (by kernel_rfl)) ((fp_idle b2 b3 b4 w).mono ?_)
  rintro en u w' ⟨rfl, rfl, rfl⟩
  exact fp_end hk h2 h3 h4 l2 l3 l4 hs hkp hr hK
theorem fp_fail {a : Act} {w w0 : World} {ρ : Env} {base A : AH} {b2 b3 b4 : Nat} {v2 : Value} {e at_ e0 a0 : Int} {K : Value → AH → Prop} (hk : @OkE (⟨[{ target := .fn (.func 9) #[.pointer (some ⟨b2, 0, none⟩), .pointer (some ⟨b3, 0, none⟩), .pointer (some ⟨b4, 0, none⟩)], args := #[] }], .normal⟩ : DefD) 36 ρ a) (h2 : Vm.get ρ 2 = some (.pointer (some ⟨b2, 0, none⟩))) (h3 : Vm.get ρ 3 = some (.pointer (some ⟨b3, 0, none⟩))) (h4 : Vm.get ρ 4 = some (.pointer (some ⟨b4, 0, none⟩)))
    (h23 : (b2 = b3) = False) (h24 : (b2 = b4) = False) (h34 : (b3 = b4) = False) (hs : Sat ((b2, Obj.cells #[v2] 24) :: (b3, Obj.cells #[.int .i64 e0] 25) :: (b4, Obj.cells #[.int .i64 a0] 3) :: A) w.heap) (hkp : Keep base w0.heap ((b2, Obj.cells #[v2] 24) :: (b3, Obj.cells #[.int .i64 e0] 25) :: (b4, Obj.cells #[.int .i64 a0] 3) :: A) w.heap) (hr : Vm.Rest w0 w) (hK : K (.tuple #[.slice none 0 0, .int .i64 e, .int .i64 at_]) ((b2, .cells #[.slice none 0 0] 24) :: (b3, .cells #[.int .i64 e] 25) :: (b4, .cells #[.int .i64 at_] 3) :: A)) :
    Leaves Tryd.prog Tryd.f5 a.tmps (fun en w' => ResA base w0.heap K en w'.heap ∧ Vm.Rest w0 w') a.defers (.panicking (ffl e at_)) w := by
  rw [hk.1]
  refine leaves_cons (by simp) (callable_run (by kernel_rfl)) ((fp_pan b2 b3 b4 v2 e at_ e0 a0 A w hs h23 h24 h34).mono ?_)
  rintro en u w' ⟨rfl, rfl, g1, g2, g3⟩
  exact fp_end hk h2 h3 h4 (by simp [Vm.look]) (by simp [Vm.look, h23]) (by simp [Vm.look, h24, h34]) g1 (hkp.trans g2) (hr.trans g3) hK
theorem opN_le {L : List LR} {k : Int} {w : ByteArray} {i j : Nat} {v : Int} (h : opN L k w i = .ok (v, j)) : i ≤ j := by
  unfold opN at h
  split at h
  · split at h
    · cases h; omega
    · cases h
  · cases h; omega
theorem fuT_lt {s : ByteArray} {L : List LR} {j k : Nat} {q : Int × Int × Int × Int} (h : fuT s L j = .ok (q, k)) : j < k := by
  unfold fuT at h
  split at h
  · cases h
  split at h
  · cases h
  split at h
  · cases h
  split at h
  · cases h
  split at h
  · cases h
  rename_i h1
  split at h
  · cases h
  rename_i h2
  split at h
  · cases h
  rename_i h3
  split at h
  · cases h
  cases h
  have := opN_le h1
  have := opN_le h2
  have := opN_le h3
  omega
theorem FuO.lts {s pl : ByteArray} {L : List LR} {us : List Fu} {i k : Nat} {u : Fu} (h : FuO s pl L us i u k) : i < k ∧ us.length < 64 := by
  cases h with
  | ok h1 h2 h3 =>
    have g1 := fuT_lt h3
    have g2 : i + 3 ≤ exJ L (i + 3) := (exE_out (L := L) (L.length - (i + 3)) (i + 3)).1
    refine ⟨by omega, ?_⟩
    unfold fuH at h1
    split at h1
    · cases h1
    · rename_i hn
      split at h1
      · cases h1
      · rename_i hm
        have : isL (lxA L i) 1 feeB = true := by simpa using hm
        rcases Nat.lt_or_ge us.length 64 with h | h
        · exact h
        · exact absurd ⟨h, this⟩ hn
theorem wf_nameF {x : LR} (h : wfX x) (hk : x.k = 1) : nameF x.t = true := by
  rcases h with ⟨_, _, h16, hw, c, l, hl, hc⟩ | ⟨k, _⟩ | ⟨k, _⟩ | ⟨k, _⟩
  · unfold nameF
    rw [size_list] at h16 hw
    have hp : 0 < x.t.size := by rw [← size_list, hl]; simp
    rw [hl] at hw ⊢
    simp [hp, h16, hc, hw]
  all_goals rw [hk] at k; cases k
theorem scanG_asc (s : ByteArray) : ∀ f i, i ≤ s.size → (scanG s f i).1 = 0 → (∀ x ∈ (scanG s f i).2.2, i ≤ x.a ∧ x.a ≤ s.size) ∧ (scanG s f i).2.2.Pairwise fun x y => x.a ≤ y.a := by
  intro f
  induction f with
  | zero => intro i _ _; simp [scanG]
  | succ f ih =>
    intro i hi h0
    by_cases h1 : s.size ≤ i
    · rw [scanG_end f h1]
      simp [endR]; omega
    by_cases he : (lexR s i).e = 0
    rotate_left
    · rw [scanG_err f h1 he] at h0; exact absurd h0 he
    obtain ⟨g1, g2⟩ := lexR_next s i (by omega) he
    rw [scanG_ok f h1 he rfl] at h0 ⊢
    have h0' : (scanG s f ((lexR s i).nx + skN false (s.toList.drop (lexR s i).nx))).1 = 0 := h0
    obtain ⟨i1, i2⟩ := ih _ (skN_end s _ g2) h0'
    have ea := lexR_a he
    simp only [h0', if_true, List.mem_cons, List.pairwise_cons]
    refine ⟨fun x hx => ?_, fun x hx => ?_, i2⟩
    · rcases hx with rfl | hx
      · omega
      · have := i1 x hx; omega
    · have := i1 x hx; omega
theorem scanF_asc {s : ByteArray} (h0 : (scanF s).1 = 0) {i j : Nat} {x y : LR} (hij : i ≤ j) (hx : (scanF s).2.2[i]? = some x) (hy : (scanF s).2.2[j]? = some y) : x.a ≤ y.a ∧ y.a ≤ s.size := by
  have hk := skN_le false s.toList
  rw [size_list] at hk
  unfold scanF at h0 hx hy
  split at h0
  · cases h0
  · rename_i h4
    rw [if_neg h4] at hx hy
    obtain ⟨h1, h2⟩ := scanG_asc s _ _ hk h0
    refine ⟨?_, (h1 y (List.mem_of_getElem? hy)).2⟩
    obtain ⟨qi, hi⟩ := List.getElem?_eq_some_iff.1 hx
    obtain ⟨qj, hj⟩ := List.getElem?_eq_some_iff.1 hy
    rcases Nat.lt_or_ge i j with h | h
    · rw [← hi, ← hj]; exact List.pairwise_iff_getElem.1 h2 i j qi qj h
    · have : i = j := by omega
      subst this
      rw [hx] at hy; cases hy; exact Nat.le_refl _
theorem fpar_h (s : ByteArray) (hs : s.size ≤ 100000) : CallA Tryd.prog 5 #[.string s] [] (ParK s) := by
  refine callA_of_defers (args := [.string s]) Tryd.func5 rfl (by kernel_rfl) (n := 36) Tryd.ntmps5 (by simp) fun a w hd hk hsat => ?_
  refine wp_seq ?_
  refine wp_regionA (dd := dd0) (imp := ⟨[], none⟩) (A := []) (KK := fun ρ' A' => ∃ b2 b3 b4, ρ' = [(4, some (.pointer (some ⟨b4, 0, none⟩))), (3, some (.pointer (some ⟨b3, 0, none⟩))), (2, some (.pointer (some ⟨b2, 0, none⟩))), (0, some (.string s))] ∧ A' = [(b4, Obj.cells #[.int .i64 0] 3), (b3, Obj.cells #[.int .i64 0] 25), (b2, Obj.cells #[.slice none 0 0] 24)] ∧ b2 ≠ b3 ∧ b2 ≠ b4 ∧ b3 ≠ b4) hk hsat ?_ ?_ ?_
  · intro ν fr
    have nuE := fr.nu
    simp (maxDischargeDepth := 16) only [evN, ↓evP, simprocAttr, forall_const, nuE, fr.2, vbQk]
    exact ⟨ν 0, ν 1, ν 2, rfl, rfl, by simp [nuE], by simp [nuE], by simp [nuE]⟩
  · rintro ch a' w' ⟨X0, A', h1, _⟩ _ _
    cases h1
  rintro ρ' A' a1 w1 ⟨b2, b3, b4, rfl, rfl, n23, n24, n34⟩ hk1 hs1 kp1 rr1
  have h23 : (b2 = b3) = False := eq_false n23
  have h24 : (b2 = b4) = False := eq_false n24
  have h34 : (b3 = b4) = False := eq_false n34
  have h32 : (b3 = b2) = False := eq_false fun h => n23 h.symm
  have h42 : (b4 = b2) = False := eq_false fun h => n24 h.symm
  have h43 : (b4 = b3) = False := eq_false fun h => n34 h.symm
  have perm : SubA [(b2, Obj.cells #[.slice none 0 0] 24), (b3, Obj.cells #[.int .i64 0] 25), (b4, Obj.cells #[.int .i64 0] 3)] [(b4, Obj.cells #[.int .i64 0] 3), (b3, Obj.cells #[.int .i64 0] 25), (b2, Obj.cells #[.slice none 0 0] 24)] := fun x o hl => by
    simp only [Vm.look] at hl ⊢
    by_cases x2 : b2 = x
    · subst x2; simpa [h42, h32] using hl
    · by_cases x3 : b3 = x
      · subst x3; simpa [h23, h43] using hl
      · simpa [x2, x3] using hl
  have hs1 := hs1.sub perm
  have kp1 := kp1.sub perm
  simp only [Exit.then]
  refine wp_seq ?_
  have t2 := hk1.2.2 2 _ rfl
  have t3 := hk1.2.2 3 _ rfl
  have t4 := hk1.2.2 4 _ rfl
  have t0 : a1.defers = [] := hk1.1
  have ts : a1.tmps.size = 36 := hk1.2.1
  obtain ⟨q2, g2⟩ := Array.getElem?_eq_some_iff.1 t2
  obtain ⟨q3, g3⟩ := Array.getElem?_eq_some_iff.1 t3
  obtain ⟨q4, g4⟩ := Array.getElem?_eq_some_iff.1 t4
  refine wp_region ?_
  simp [wpOps, go_sem, Exit.then, t2, t3, t4, t0, ts, g2, g3, g4]
  refine .inl (.inl ?_)
  refine wp_seq ?_
  have dn : Dis ([] : AH) [(b2, Obj.cells #[.slice none 0 0] 24), (b3, Obj.cells #[.int .i64 0] 25), (b4, Obj.cells #[.int .i64 0] 3)] := fun x hx => rfl
  refine wp_regionA (dd := (⟨[{ target := .fn (.func 9) #[.pointer (some ⟨b2, 0, none⟩), .pointer (some ⟨b3, 0, none⟩), .pointer (some ⟨b4, 0, none⟩)], args := #[] }], .normal⟩ : DefD)) (imp := ⟨[10], none⟩) (A := [(b2, Obj.cells #[.slice none 0 0] 24), (b3, Obj.cells #[.int .i64 0] 25), (b4, Obj.cells #[.int .i64 0] 3)]) (ρ := [(4, some (.pointer (some ⟨b4, 0, none⟩))), (3, some (.pointer (some ⟨b3, 0, none⟩))), (2, some (.pointer (some ⟨b2, 0, none⟩))), (0, some (.string s))]) (KK := fun ρ' A' => subE ((5, some (.string (plB s))) :: (0, some (.string s)) :: [(2, some (.pointer (some ⟨b2, 0, none⟩))), (3, some (.pointer (some ⟨b3, 0, none⟩))), (4, some (.pointer (some ⟨b4, 0, none⟩)))]) ρ' ∧ A' = [(b2, Obj.cells #[.slice none 0 0] 24), (b3, Obj.cells #[.int .i64 0] 25), (b4, Obj.cells #[.int .i64 0] 3)]) (hk1.lay rfl rfl rfl) hs1 ?_ ?_ ?_
  · intro ν fr
    have nuE := fr.nu
    simp (maxDischargeDepth := 16) only [evN, ↓evP, simprocAttr, forall_const, nuE, fr.2, vbQk, h23, h24, h34, h32, h42, h43]
    refine CallA.useX (wofA_h s hs) (SubA.nil _) [(b2, Obj.cells #[.slice none 0 0] 24), (b3, Obj.cells #[.int .i64 0] 25), (b4, Obj.cells #[.int .i64 0] 3)] (SubA.refl _) dn ?_
    rintro v D rfl dD
    refine ⟨[], SubA.nil _, ?_⟩
    clear nuE fr
    simp only [List.nil_append]
    intro ν fr; have nuE := fr.nu
    simp (maxDischargeDepth := 16) only [evN, ↓evP, simprocAttr, forall_const, nuE, fr.2, vbQk]
    exact (by simp only [subE, get_cons, Nat.reduceEqDiff, ↓reduceIte, reduceCtorEq, Nat.reduceAdd, and_self, and_true])
  · rintro ch a' w' ⟨X0, A', h1, _⟩ _ _
    cases h1
  rintro ρ' A' a3 w3 ⟨hse3, rfl⟩ hk3 hs3 kp3 rr3
  simp only [Exit.then]
  have hk3 := OkE.weak (dd := (⟨[{ target := .fn (.func 9) #[.pointer (some ⟨b2, 0, none⟩), .pointer (some ⟨b3, 0, none⟩), .pointer (some ⟨b4, 0, none⟩)], args := #[] }], .normal⟩ : DefD)) hk3 hse3
  refine wp_seq ?_
  refine wp_regionA (dd := (⟨[{ target := .fn (.func 9) #[.pointer (some ⟨b2, 0, none⟩), .pointer (some ⟨b3, 0, none⟩), .pointer (some ⟨b4, 0, none⟩)], args := #[] }], .normal⟩ : DefD)) (imp := ⟨[11], none⟩) (KK := fun ρ' A' => ∃ lv B, subE ((6, some lv) :: (5, some (.string (plB s))) :: (0, some (.string s)) :: [(2, some (.pointer (some ⟨b2, 0, none⟩))), (3, some (.pointer (some ⟨b3, 0, none⟩))), (4, some (.pointer (some ⟨b4, 0, none⟩)))]) ρ' ∧ A' = (b2, Obj.cells #[.slice none 0 0] 24) :: (b3, Obj.cells #[.int .i64 (scanF (plB s)).1] 25) :: (b4, Obj.cells #[.int .i64 ((scanF (plB s)).2.1 : Nat)] 3) :: B ∧ OwnL LR.cells 4 49 lv B (scanF (plB s)).2.2 ∧ Dis B [(b2, Obj.cells #[.slice none 0 0] 24), (b3, Obj.cells #[.int .i64 0] 25), (b4, Obj.cells #[.int .i64 0] 3)]) hk3 hs3 ?_ ?_ ?_
  · intro ν fr
    have nuE := fr.nu
    simp (maxDischargeDepth := 16) only [evN, ↓evP, simprocAttr, forall_const, nuE, fr.2, vbQk, h23, h24, h34, h32, h42, h43]
    refine CallA.newX (scan_a [] (plB s) (by rw [plB_size]; exact hs)) (SubA.nil _) ?_
    rintro v B ⟨lv, rfl, ho⟩ hd
    refine ⟨[(b2, Obj.cells #[.slice none 0 0] 24), (b3, Obj.cells #[.int .i64 0] 25), (b4, Obj.cells #[.int .i64 0] 3)] ++ B, SubA.both hd.right (SubA.left _ _), ?_⟩
    clear nuE fr
    simp only [List.cons_append, List.nil_append]
    intro ν fr; have nuE := fr.nu
    simp (maxDischargeDepth := 16) only [evN, ↓evP, simprocAttr, forall_const, nuE, fr.2, vbQk, h23, h24, h34, h32, h42, h43]
    exact ⟨lv, B, (by simp only [subE, get_cons, Nat.reduceEqDiff, ↓reduceIte, reduceCtorEq, Nat.reduceAdd, and_self, and_true]), rfl, ho, hd⟩
  · rintro ch a' w' ⟨X0, A', h1, _⟩ _ _
    cases h1
  rintro ρ' A' a4 w4 ⟨lv, B, hse4, rfl, ho, dB⟩ hk4 hs4 kp4 rr4
  simp only [Exit.then]
  have hk4 := OkE.weak (dd := (⟨[{ target := .fn (.func 9) #[.pointer (some ⟨b2, 0, none⟩), .pointer (some ⟨b3, 0, none⟩), .pointer (some ⟨b4, 0, none⟩)], args := #[] }], .normal⟩ : DefD)) hk4 hse4
  refine wp_seq ?_
  refine wp_seq ?_
  by_cases h0 : (scanF (plB s)).1 = 0
  rotate_left
  · refine wp_regionA (dd := (⟨[{ target := .fn (.func 9) #[.pointer (some ⟨b2, 0, none⟩), .pointer (some ⟨b3, 0, none⟩), .pointer (some ⟨b4, 0, none⟩)], args := #[] }], .normal⟩ : DefD)) (imp := ⟨[], none⟩) (KK := fun ρ' A' => subE ((18, some (.bool true)) :: [(2, some (.pointer (some ⟨b2, 0, none⟩))), (3, some (.pointer (some ⟨b3, 0, none⟩))), (4, some (.pointer (some ⟨b4, 0, none⟩)))]) ρ' ∧ A' = (b2, Obj.cells #[.slice none 0 0] 24) :: (b3, Obj.cells #[.int .i64 (scanF (plB s)).1] 25) :: (b4, Obj.cells #[.int .i64 ((scanF (plB s)).2.1 : Nat)] 3) :: B) hk4 hs4 ?_ ?_ ?_
    · intro ν fr
      have nuE := fr.nu
      have n0 : ((scanF (plB s)).1 != 0) = true := by simp [h0]
      simp (maxDischargeDepth := 16) only [evN, ↓evP, simprocAttr, forall_const, nuE, fr.2, vbQk, h23, h24, h34, h32, h42, h43, n0]
      exact (by simp only [subE, get_cons, Nat.reduceEqDiff, ↓reduceIte, reduceCtorEq, Nat.reduceAdd, and_self, and_true])
    · rintro ch a' w' ⟨X0, A', h1, _⟩ _ _
      cases h1
    rintro ρ' A' a5 w5 ⟨hse5, rfl⟩ hk5 hs5 kp5 rr5
    simp only [Exit.then]
    have hk5 := OkE.weak (dd := (⟨[{ target := .fn (.func 9) #[.pointer (some ⟨b2, 0, none⟩), .pointer (some ⟨b3, 0, none⟩), .pointer (some ⟨b4, 0, none⟩)], args := #[] }], .normal⟩ : DefD)) hk5 hse5
    refine wp_cond (t := true) (evO_eval (dd := (⟨[{ target := .fn (.func 9) #[.pointer (some ⟨b2, 0, none⟩), .pointer (some ⟨b3, 0, none⟩), .pointer (some ⟨b4, 0, none⟩)], args := #[] }], .normal⟩ : DefD)) hk5 rfl) ?_
    simp only [if_true]
    refine wp_seq ?_
    refine wp_regionQ (dd := (⟨[{ target := .fn (.func 9) #[.pointer (some ⟨b2, 0, none⟩), .pointer (some ⟨b3, 0, none⟩), .pointer (some ⟨b4, 0, none⟩)], args := #[] }], .normal⟩ : DefD)) (im := []) (KK := fun ρ' A' => subE [(2, some (.pointer (some ⟨b2, 0, none⟩))), (3, some (.pointer (some ⟨b3, 0, none⟩))), (4, some (.pointer (some ⟨b4, 0, none⟩)))] ρ' ∧ A' = (b2, Obj.cells #[.slice none 0 0] 24) :: (b3, Obj.cells #[.int .i64 (scanF (plB s)).1] 25) :: (b4, Obj.cells #[.int .i64 ((scanF (plB s)).2.1 : Nat)] 3) :: B) [(0, 0), (1, 0), (2, 0), (3, 0), (4, 2)] [(b3, Obj.cells #[.int .i64 (scanF (plB s)).1] 25), (b4, Obj.cells #[.int .i64 ((scanF (plB s)).2.1 : Nat)] 3)] (SubA.skip (by simp [Vm.look, h32, h42]) (SubA.left [_, _] _)) (by kernel_rfl) (by kernel_rfl) (by kernel_rfl) (by kernel_rfl) (by kernel_rfl) hk5 hs5 ?_ ?_
    · intro ν fr
      have nuE := fr.nu
      simp (maxDischargeDepth := 16) only [evN, ↓evP, simprocAttr, forall_const, nuE, fr.2, vbQk, h23, h24, h34, h32, h42, h43]
      exact (by simp only [subE, get_cons, Nat.reduceEqDiff, ↓reduceIte, reduceCtorEq, Nat.reduceAdd, and_self, and_true])
    rintro ρ' A' a6 w6 ⟨hse6, rfl⟩ hk6 hs6 kp6 rr6
    refine wp_ret ?_
    have hk6 := OkE.weak (dd := (⟨[{ target := .fn (.func 9) #[.pointer (some ⟨b2, 0, none⟩), .pointer (some ⟨b3, 0, none⟩), .pointer (some ⟨b4, 0, none⟩)], args := #[] }], .normal⟩ : DefD)) hk6 hse6
    refine fp_fine (v2 := .slice none 0 0) (e := (scanF (plB s)).1) (at_ := ((scanF (plB s)).2.1 : Nat)) hk6 rfl rfl rfl (by simp [Vm.look]) (by simp [Vm.look, h23]) (by simp [Vm.look, h24, h34]) hs6 (((((kp1.trans kp3).trans kp4).trans kp5).trans kp6)) ((((rr1.trans rr3).trans rr4).trans rr5).trans rr6) ?_
    exact ⟨_, [], rfl, ⟨_, _, [], none, 0, .scan h0, by simp, by simp, rfl, [], rfl, .inl rfl, fun k u r h => by simp at h⟩, Dis.nil _, SubA.nil _⟩
  refine wp_regionA (dd := (⟨[{ target := .fn (.func 9) #[.pointer (some ⟨b2, 0, none⟩), .pointer (some ⟨b3, 0, none⟩), .pointer (some ⟨b4, 0, none⟩)], args := #[] }], .normal⟩ : DefD)) (imp := ⟨[], none⟩) (KK := fun ρ' A' => subE ((18, some (.bool false)) :: (6, some lv) :: (5, some (.string (plB s))) :: (0, some (.string s)) :: [(2, some (.pointer (some ⟨b2, 0, none⟩))), (3, some (.pointer (some ⟨b3, 0, none⟩))), (4, some (.pointer (some ⟨b4, 0, none⟩)))]) ρ' ∧ A' = (b2, Obj.cells #[.slice none 0 0] 24) :: (b3, Obj.cells #[.int .i64 (scanF (plB s)).1] 25) :: (b4, Obj.cells #[.int .i64 ((scanF (plB s)).2.1 : Nat)] 3) :: B) hk4 hs4 ?_ ?_ ?_
  · intro ν fr
    have nuE := fr.nu
    have n0 : ((scanF (plB s)).1 != 0) = false := by simp [h0]
    simp (maxDischargeDepth := 16) only [evN, ↓evP, simprocAttr, forall_const, nuE, fr.2, vbQk, h23, h24, h34, h32, h42, h43, n0]
    exact (by simp only [subE, get_cons, Nat.reduceEqDiff, ↓reduceIte, reduceCtorEq, Nat.reduceAdd, and_self, and_true])
  · rintro ch a' w' ⟨X0, A', h1, _⟩ _ _
    cases h1
  rintro ρ' A' a5 w5 ⟨hse5, rfl⟩ hk5 hs5 kp5 rr5
  simp only [Exit.then]
  have hk5 := OkE.weak (dd := (⟨[{ target := .fn (.func 9) #[.pointer (some ⟨b2, 0, none⟩), .pointer (some ⟨b3, 0, none⟩), .pointer (some ⟨b4, 0, none⟩)], args := #[] }], .normal⟩ : DefD)) hk5 hse5
  refine wp_cond (t := false) (evO_eval (dd := (⟨[{ target := .fn (.func 9) #[.pointer (some ⟨b2, 0, none⟩), .pointer (some ⟨b3, 0, none⟩), .pointer (some ⟨b4, 0, none⟩)], args := #[] }], .normal⟩ : DefD)) hk5 rfl) ?_
  simp only [Bool.false_eq_true, if_false]
  refine wp_skip ?_
  simp only [Exit.then]
  refine wp_seq ?_
  obtain ⟨lp, lcap, rfl, hc1, hL⟩ := OwnL.read (f := LR.cells) (n := 4) (fun x => rfl) ho
  refine wp_regionA (dd := (⟨[{ target := .fn (.func 9) #[.pointer (some ⟨b2, 0, none⟩), .pointer (some ⟨b3, 0, none⟩), .pointer (some ⟨b4, 0, none⟩)], args := #[] }], .normal⟩ : DefD)) (imp := ⟨[], none⟩) (KK := fun ρ' A' => ∃ pb, subE ((7, some (.pointer (some ⟨pb, 0, none⟩))) :: [(2, some (.pointer (some ⟨b2, 0, none⟩))), (3, some (.pointer (some ⟨b3, 0, none⟩))), (4, some (.pointer (some ⟨b4, 0, none⟩)))]) ρ' ∧ A' = (pb, fB s (plB s) lp (scanF (plB s)).2.2.length lcap 0 (.slice none 0 0)) :: (b2, Obj.cells #[.slice none 0 0] 24) :: (b3, Obj.cells #[.int .i64 (scanF (plB s)).1] 25) :: (b4, Obj.cells #[.int .i64 ((scanF (plB s)).2.1 : Nat)] 3) :: B ∧ Vm.look ((b2, Obj.cells #[.slice none 0 0] 24) :: (b3, Obj.cells #[.int .i64 (scanF (plB s)).1] 25) :: (b4, Obj.cells #[.int .i64 ((scanF (plB s)).2.1 : Nat)] 3) :: B) pb = none) hk5 hs5 ?_ ?_ ?_
  · intro ν fr
    have nuE := fr.nu
    simp (maxDischargeDepth := 16) only [evN, ↓evP, simprocAttr, forall_const, nuE, fr.2, vbQk, h23, h24, h34, h32, h42, h43]
    exact ⟨ν 0, (by simp only [subE, get_cons, Nat.reduceEqDiff, ↓reduceIte, reduceCtorEq, Nat.reduceAdd, and_self, and_true]), rfl, fr.2 0⟩
  · rintro ch a' w' ⟨X0, A', h1, _⟩ _ _
    cases h1
  rintro ρ' A' a6 w6 ⟨pb, hse6, rfl, fpb⟩ hk6 hs6 kp6 rr6
  simp only [Exit.then]
  have hk6 := OkE.weak (dd := (⟨[{ target := .fn (.func 9) #[.pointer (some ⟨b2, 0, none⟩), .pointer (some ⟨b3, 0, none⟩), .pointer (some ⟨b4, 0, none⟩)], args := #[] }], .normal⟩ : DefD)) hk6 hse6
  refine wp_seq ?_
  refine wp_block ?_
  obtain ⟨L, eL⟩ : ∃ L, (scanF (plB s)).2.2 = L := ⟨_, rfl⟩
  have nb2 : Vm.look B b2 = none := dB b2 (by simp [Vm.look])
  have nb3 : Vm.look B b3 = none := dB b3 (by simp [Vm.look, h23])
  have nb4 : Vm.look B b4 = none := dB b4 (by simp [Vm.look, h24, h34])
  have sB : SubA B ((b2, Obj.cells #[.slice none 0 0] 24) :: (b3, Obj.cells #[.int .i64 (scanF (plB s)).1] 25) :: (b4, Obj.cells #[.int .i64 ((scanF (plB s)).2.1 : Nat)] 3) :: B) := SubA.skip nb2 (SubA.skip nb3 (SubA.skip nb4 (SubA.refl _)))
  have p2 := look_ne fpb (show Vm.look ((b2, Obj.cells #[.slice none 0 0] 24) :: (b3, Obj.cells #[.int .i64 (scanF (plB s)).1] 25) :: (b4, Obj.cells #[.int .i64 ((scanF (plB s)).2.1 : Nat)] 3) :: B) b2 = some (.cells #[.slice none 0 0] 24) by simp [Vm.look])
  have p3 := look_ne fpb (show Vm.look ((b2, Obj.cells #[.slice none 0 0] 24) :: (b3, Obj.cells #[.int .i64 (scanF (plB s)).1] 25) :: (b4, Obj.cells #[.int .i64 ((scanF (plB s)).2.1 : Nat)] 3) :: B) b3 = some (.cells #[.int .i64 (scanF (plB s)).1] 25) by simp [Vm.look, h23])
  have p4 := look_ne fpb (show Vm.look ((b2, Obj.cells #[.slice none 0 0] 24) :: (b3, Obj.cells #[.int .i64 (scanF (plB s)).1] 25) :: (b4, Obj.cells #[.int .i64 ((scanF (plB s)).2.1 : Nat)] 3) :: B) b4 = some (.cells #[.int .i64 ((scanF (plB s)).2.1 : Nat)] 3) by simp [Vm.look, h24, h34])
  have hp0 : FsOk pb s (plB s) lp L B := by
    obtain ⟨K, hK, hw, hsz, hlen⟩ := scan_out h0
    rw [plB_size] at hsz
    refine ⟨sB.none fpb, by rw [← eL]; exact hL, by rw [← eL]; omega, by rw [← eL]; exact scan_end h0, (plB_size s).symm, hsz, fun i x hx hk => ?_, fun i j x y hij hx hy => ?_⟩
    · rw [← eL, hK] at hx
      rcases List.mem_append.1 (List.mem_of_getElem? hx) with h | h
      · exact wf_nameF (hw x h) hk
      · simp only [List.mem_singleton] at h; rw [h] at hk; cases hk
    · rw [← eL] at hx hy
      obtain ⟨g1, g2⟩ := scanF_asc h0 hij hx hy
      rw [plB_size] at g2
      refine ⟨g1, g2, fun hk => ?_⟩
      have := scanF_pos h0 y (List.mem_of_getElem? hy) hk
      rw [plB_size] at this; exact this
  have hpos : 0 < L.length := by
    obtain ⟨K, hK, _⟩ := scan_out h0
    rw [← eL, hK]; simp
  rw [eL] at hs6 kp6
  have PfE : ∀ {e : Int} {a : Nat}, FlE s (plB s) L [] 0 e a → PfO s e a [] := fun h => .er h0 (by rw [eL]; exact h)
  have PfK : ∀ {us : List Fu} {j : Nat}, FlO s (plB s) L [] 0 us j → PfO s 0 0 us := fun h => .ok h0 (by rw [eL]; exact h)
  have kpA := ((((kp1.trans kp3).trans kp4).trans kp5).trans kp6)
  have rrA := ((((rr1.trans rr3).trans rr4).trans rr5).trans rr6)
  have perm6 : SubA ((b2, Obj.cells #[.slice none 0 0] 24) :: (b3, Obj.cells #[.int .i64 (scanF (plB s)).1] 25) :: (b4, Obj.cells #[.int .i64 ((scanF (plB s)).2.1 : Nat)] 3) :: FsT pb s (plB s) lp lcap L (.slice none 0 0) 0 (B ++ [])) ((pb, fB s (plB s) lp L.length lcap 0 (.slice none 0 0)) :: (b2, Obj.cells #[.slice none 0 0] 24) :: (b3, Obj.cells #[.int .i64 (scanF (plB s)).1] 25) :: (b4, Obj.cells #[.int .i64 ((scanF (plB s)).2.1 : Nat)] 3) :: B) := fun x o hl => by
    simp only [FsT, Vm.look, List.append_nil] at hl ⊢
    by_cases xp : pb = x
    · subst xp; simpa [p2.2, p3.2, p4.2] using hl
    · simpa [xp] using hl
  have hs6 := hs6.sub perm6
  have kpA := kpA.sub perm6
  clear kp1 kp3 kp4 kp5 kp6 rr1 rr3 rr4 rr5 rr6 perm6 hs1 hs3 hs4 hs5 hk1 hk3 hk4 hk5
  refine wp_loop_ghost (fun n a' w' => ∃ j A' us rs v B', @OkE (⟨[{ target := .fn (.func 9) #[.pointer (some ⟨b2, 0, none⟩), .pointer (some ⟨b3, 0, none⟩), .pointer (some ⟨b4, 0, none⟩)], args := #[] }], .normal⟩ : DefD) 36 ((7, some (.pointer (some ⟨pb, 0, none⟩))) :: [(2, some (.pointer (some ⟨b2, 0, none⟩))), (3, some (.pointer (some ⟨b3, 0, none⟩))), (4, some (.pointer (some ⟨b4, 0, none⟩)))]) a' ∧ Sat ((b2, Obj.cells #[.slice none 0 0] 24) :: (b3, Obj.cells #[.int .i64 (scanF (plB s)).1] 25) :: (b4, Obj.cells #[.int .i64 ((scanF (plB s)).2.1 : Nat)] 3) :: FsT pb s (plB s) lp lcap L v j (A' ++ B')) w'.heap ∧ Keep [] w.heap ((b2, Obj.cells #[.slice none 0 0] 24) :: (b3, Obj.cells #[.int .i64 (scanF (plB s)).1] 25) :: (b4, Obj.cells #[.int .i64 ((scanF (plB s)).2.1 : Nat)] 3) :: FsT pb s (plB s) lp lcap L v j (A' ++ B')) w'.heap ∧ Vm.Rest w w' ∧ n = L.length - j ∧ j < L.length ∧ FsOk pb s (plB s) lp L A' ∧
    OwnL fuC 10 36 v B' rs ∧ rs.map Fuv.nm = us.map Fu.nm ∧ AllF A' us rs ∧ Dis B' (FsT pb s (plB s) lp lcap L v j A') ∧ (Vm.look (FsT pb s (plB s) lp lcap L v j (A' ++ B')) b2 = none ∧ Vm.look (FsT pb s (plB s) lp lcap L v j (A' ++ B')) b3 = none ∧ Vm.look (FsT pb s (plB s) lp lcap L v j (A' ++ B')) b4 = none) ∧
    (∀ vs k, FlO s (plB s) L us j vs k → FlO s (plB s) L [] 0 vs k) ∧ (∀ e a, FlE s (plB s) L us j e a → FlE s (plB s) L [] 0 e a) ∧ us.length ≤ 64) (L.length - 0) ⟨0, B, [], [], _, [], hk6, hs6, kpA, rrA, rfl, hpos, hp0, OwnL.nil _ _ _, rfl, fun k u r h => by simp at h, Dis.nil _, ⟨?_, ?_, ?_⟩, fun _ _ h => h, fun _ _ h => h, by simp⟩ ?_
  · simp only [FsT, Vm.look, List.append_nil, p2.1, if_false]; exact nb2
  · simp only [FsT, Vm.look, List.append_nil, p3.1, if_false]; exact nb3
  · simp only [FsT, Vm.look, List.append_nil, p4.1, if_false]; exact nb4
  rintro n a7 w7 ⟨j, A', us, rs, v, B', hk7, hs7, kp7, rr7, rfl, hj, hp, hown, hnm, hall, dB', ⟨o2, o3, o4⟩, hO, hE, h64⟩
  obtain ⟨x, hx, elx⟩ := at_of hj
  have hBp : Vm.look B' pb = none := dB' pb (by simp [FsT, Vm.look])
  have hpB : FsOk pb s (plB s) lp L (A' ++ B') := hp.mono (SubA.left A' B') (look_app_none hp.np hBp)
  refine wp_seq ?_
  refine wp_seq ?_
  refine wp_regionA (dd := (⟨[{ target := .fn (.func 9) #[.pointer (some ⟨b2, 0, none⟩), .pointer (some ⟨b3, 0, none⟩), .pointer (some ⟨b4, 0, none⟩)], args := #[] }], .normal⟩ : DefD)) (imp := ⟨[], none⟩) (KK := fun ρ' A1 => subE ((29, some (.bool (x.k != 0))) :: (7, some (.pointer (some ⟨pb, 0, none⟩))) :: [(2, some (.pointer (some ⟨b2, 0, none⟩))), (3, some (.pointer (some ⟨b3, 0, none⟩))), (4, some (.pointer (some ⟨b4, 0, none⟩)))]) ρ' ∧ A1 = (b2, Obj.cells #[.slice none 0 0] 24) :: (b3, Obj.cells #[.int .i64 (scanF (plB s)).1] 25) :: (b4, Obj.cells #[.int .i64 ((scanF (plB s)).2.1 : Nat)] 3) :: FsT pb s (plB s) lp lcap L v j (A' ++ B')) hk7 hs7 ?_ ?_ ?_
  · intro ν fr
    have nuE := fr.nu
    have pk := fpeek_w pb s (plB s) lp lcap L v (A' ++ B') hpB j x hx ((b2, Obj.cells #[.slice none 0 0] 24) :: (b3, Obj.cells #[.int .i64 (scanF (plB s)).1] 25) :: (b4, Obj.cells #[.int .i64 ((scanF (plB s)).2.1 : Nat)] 3) :: FsT pb s (plB s) lp lcap L v j (A' ++ B')) (SubA.skip o2 (SubA.skip o3 (SubA.skip o4 (SubA.refl _))))
    simp only [FsT, fB, lexV] at pk ⊢
    simp (maxDischargeDepth := 16) only [evN, ↓evP, simprocAttr, forall_const, nuE, fr.2, vbQk, h23, h24, h34, h32, h42, h43, pk]
    exact (by simp only [subE, get_cons, Nat.reduceEqDiff, ↓reduceIte, reduceCtorEq, Nat.reduceAdd, and_self, and_true])
  · rintro ch a' w' ⟨X0, A', h1, _⟩ _ _
    cases h1
  rintro ρ' A1 a8 w8 ⟨hse8, rfl⟩ hk8 hs8 kp8 rr8
  simp only [Exit.then]
  have hk8 := OkE.weak (dd := (⟨[{ target := .fn (.func 9) #[.pointer (some ⟨b2, 0, none⟩), .pointer (some ⟨b3, 0, none⟩), .pointer (some ⟨b4, 0, none⟩)], args := #[] }], .normal⟩ : DefD)) hk8 hse8
  by_cases hx0 : x.k = 0
  · refine wp_cond (t := false) (by rw [evO_eval (dd := (⟨[{ target := .fn (.func 9) #[.pointer (some ⟨b2, 0, none⟩), .pointer (some ⟨b3, 0, none⟩), .pointer (some ⟨b4, 0, none⟩)], args := #[] }], .normal⟩ : DefD)) hk8 rfl, hx0]; rfl) ?_
    simp only [Bool.false_eq_true, if_false]
    refine wp_exit ?_
    simp only [Exit.then, Exit.inBlock, if_true]
    obtain ⟨p, cap, rfl, hc1, hS⟩ := OwnL.read (f := fuC) (n := 10) fuC_len hown
    have hlen : rs.length = us.length := by have := congrArg List.length hnm; simpa using this
    have q2 := look_ne o2 (show Vm.look (FsT pb s (plB s) lp lcap L (.slice p rs.length cap) j (A' ++ B')) pb = some (fB s (plB s) lp L.length lcap j (.slice p rs.length cap)) by simp [FsT, Vm.look])
    have q3 := look_ne o3 (show Vm.look (FsT pb s (plB s) lp lcap L (.slice p rs.length cap) j (A' ++ B')) pb = some (fB s (plB s) lp L.length lcap j (.slice p rs.length cap)) by simp [FsT, Vm.look])
    have q4 := look_ne o4 (show Vm.look (FsT pb s (plB s) lp lcap L (.slice p rs.length cap) j (A' ++ B')) pb = some (fB s (plB s) lp L.length lcap j (.slice p rs.length cap)) by simp [FsT, Vm.look])
    refine wp_seq ?_
    refine wp_regionA (dd := (⟨[{ target := .fn (.func 9) #[.pointer (some ⟨b2, 0, none⟩), .pointer (some ⟨b3, 0, none⟩), .pointer (some ⟨b4, 0, none⟩)], args := #[] }], .normal⟩ : DefD)) (imp := ⟨[], none⟩) (KK := fun ρ' A1 => subE [(2, some (.pointer (some ⟨b2, 0, none⟩))), (3, some (.pointer (some ⟨b3, 0, none⟩))), (4, some (.pointer (some ⟨b4, 0, none⟩)))] ρ' ∧ A1 = (b2, Obj.cells #[.slice p rs.length cap] 24) :: (b3, Obj.cells #[.int .i64 0] 25) :: (b4, Obj.cells #[.int .i64 0] 3) :: FsT pb s (plB s) lp lcap L (.slice p rs.length cap) j (A' ++ B')) hk8 hs8 ?_ ?_ ?_
    · intro ν fr
      have nuE := fr.nu
      simp only [FsT, fB]
      simp (maxDischargeDepth := 16) only [evN, ↓evP, simprocAttr, forall_const, nuE, fr.2, vbQk, h23, h24, h34, h32, h42, h43, q2, q3, q4]
      exact (by simp only [subE, get_cons, Nat.reduceEqDiff, ↓reduceIte, reduceCtorEq, Nat.reduceAdd, and_self, and_true])
    · rintro ch a' w' ⟨X0, A', h1, _⟩ _ _
      cases h1
    rintro ρ' A1 a9 w9 ⟨hse9, rfl⟩ hk9 hs9 kp9 rr9
    simp only [Exit.then]
    have hk9 := OkE.weak (dd := (⟨[{ target := .fn (.func 9) #[.pointer (some ⟨b2, 0, none⟩), .pointer (some ⟨b3, 0, none⟩), .pointer (some ⟨b4, 0, none⟩)], args := #[] }], .normal⟩ : DefD)) hk9 hse9
    refine wp_ret ?_
    refine fp_fine (v2 := .slice p rs.length cap) (e := 0) (at_ := 0) hk9 rfl rfl rfl (by simp [Vm.look]) (by simp [Vm.look, h23]) (by simp [Vm.look, h24, h34]) hs9 ((kp7.trans kp8).trans kp9) ((rr7.trans rr8).trans rr9) ?_
    have dAB : Dis B' A' := Dis.subr dB' (fs_base hp.np)
    refine ⟨_, A' ++ B', rfl, ⟨0, 0, us, p, cap, PfK (hO _ _ (.fin (by rw [elx]; exact hx0))), h64, by omega, by rw [hlen]; rfl, rs, hlen, hS.mono dAB.symm.right, hall.mono (SubA.left _ _)⟩, fun x hx => absurd rfl hx, ?_⟩
    rw [List.append_nil]
    exact SubA.trans (fs_base hpB.np) (SubA.skip o2 (SubA.skip o3 (SubA.skip o4 (SubA.refl _))))
  refine wp_cond (t := true) (by rw [evO_eval (dd := (⟨[{ target := .fn (.func 9) #[.pointer (some ⟨b2, 0, none⟩), .pointer (some ⟨b3, 0, none⟩), .pointer (some ⟨b4, 0, none⟩)], args := #[] }], .normal⟩ : DefD)) hk8 rfl]; simp [hx0]) ?_
  simp only [if_true]
  refine wp_skip ?_
  simp only [Exit.then]
  refine wp_block ?_
  refine wp_region_lit ?_
  refine wpList_opW (dd := (⟨[{ target := .fn (.func 9) #[.pointer (some ⟨b2, 0, none⟩), .pointer (some ⟨b3, 0, none⟩), .pointer (some ⟨b4, 0, none⟩)], args := #[] }], .normal⟩ : DefD)) (imp := ⟨[], none⟩) (KK := fun ρ' A1 => subE ((30, some (.pointer (some ⟨pb, 0, none⟩))) :: (7, some (.pointer (some ⟨pb, 0, none⟩))) :: [(2, some (.pointer (some ⟨b2, 0, none⟩))), (3, some (.pointer (some ⟨b3, 0, none⟩))), (4, some (.pointer (some ⟨b4, 0, none⟩)))]) ρ' ∧ A1 = (b2, Obj.cells #[.slice none 0 0] 24) :: (b3, Obj.cells #[.int .i64 (scanF (plB s)).1] 25) :: (b4, Obj.cells #[.int .i64 ((scanF (plB s)).2.1 : Nat)] 3) :: FsT pb s (plB s) lp lcap L v j (A' ++ B')) rfl hk8 hs8 ?_ ?_ ?_
  · intro ν fr
    have nuE := fr.nu
    simp (maxDischargeDepth := 16) only [evN, ↓evP, simprocAttr, forall_const, nuE, fr.2, vbQk]
    exact (by simp only [subE, get_cons, Nat.reduceEqDiff, ↓reduceIte, reduceCtorEq, Nat.reduceAdd, and_self, and_true])
  · rintro ch w' ⟨X0, A', h1, _⟩ _
    cases h1
  rintro ρ' A1 a9 w9 ⟨hse9, rfl⟩ hk9 hs9 kp9 rr9
  have hk9 := OkE.weak (dd := (⟨[{ target := .fn (.func 9) #[.pointer (some ⟨b2, 0, none⟩), .pointer (some ⟨b3, 0, none⟩), .pointer (some ⟨b4, 0, none⟩)], args := #[] }], .normal⟩ : DefD)) hk9 hse9
  have kpB := (kp7.trans kp8).trans kp9
  have rrB := (rr7.trans rr8).trans rr9
  have hlen : rs.length = us.length := by have := congrArg List.length hnm; simpa using this
  have hk0 : (lxA L j).k ≠ 0 := by rw [elx]; exact hx0
  have hcE : CallE Tryd.prog 13 #[.pointer (some ⟨pb, 0, none⟩)] ((b2, Obj.cells #[.slice none 0 0] 24) :: (b3, Obj.cells #[.int .i64 (scanF (plB s)).1] 25) :: (b4, Obj.cells #[.int .i64 ((scanF (plB s)).2.1 : Nat)] 3) :: FsT pb s (plB s) lp lcap L v j (A' ++ B')) (fun ch D => FuX s (plB s) L us j ch ∧ SubA [(b2, Obj.cells #[.slice none 0 0] 24), (b3, Obj.cells #[.int .i64 (scanF (plB s)).1] 25), (b4, Obj.cells #[.int .i64 ((scanF (plB s)).2.1 : Nat)] 3)] D)
      (fun _ D => ∃ u k r A2 v2 B2, FuO s (plB s) L us j u k ∧ OwnL fuC 10 36 v2 B2 (rs ++ [r]) ∧ FuR A2 u r ∧ k < L.length ∧ SubA A' A2 ∧ FsOk pb s (plB s) lp L A2 ∧ Dis B2 (FsT pb s (plB s) lp lcap L v2 k A2) ∧ (Vm.look (FsT pb s (plB s) lp lcap L v2 k (A2 ++ B2)) b2 = none ∧ Vm.look (FsT pb s (plB s) lp lcap L v2 k (A2 ++ B2)) b3 = none ∧ Vm.look (FsT pb s (plB s) lp lcap L v2 k (A2 ++ B2)) b4 = none) ∧ SubA ((b2, Obj.cells #[.slice none 0 0] 24) :: (b3, Obj.cells #[.int .i64 (scanF (plB s)).1] 25) :: (b4, Obj.cells #[.int .i64 ((scanF (plB s)).2.1 : Nat)] 3) :: FsT pb s (plB s) lp lcap L v2 k (A2 ++ B2)) D) := by
    refine CallE.to (frule_h pb s (plB s) lp lcap L A' hp j hj us rs v B' hown (by omega) hnm dB') (SubA.skip o2 (SubA.skip o3 (SubA.skip o4 (SubA.refl _)))) [(b2, Obj.cells #[.slice none 0 0] 24), (b3, Obj.cells #[.int .i64 (scanF (plB s)).1] 25), (b4, Obj.cells #[.int .i64 ((scanF (plB s)).2.1 : Nat)] 3)] (SubA.left [_, _, _] _) (dis3 o2 o3 o4) ?_ ?_
    · intro ch D h dD
      exact ⟨D ++ [(b2, Obj.cells #[.slice none 0 0] 24), (b3, Obj.cells #[.int .i64 (scanF (plB s)).1] 25), (b4, Obj.cells #[.int .i64 ((scanF (plB s)).2.1 : Nat)] 3)], SubA.refl _, h, dD.right⟩
    · rintro v' D ⟨u, k, r, A2, v2, B2, g1, g2, g3, g4, g5, g6, g7, hD⟩ dD
      exact ⟨_, SubA.front dD hD, u, k, r, A2, v2, B2, g1, g2, g3, g4, g5, g6, g7, ⟨hD.none (dD b2 (by simp [Vm.look])), hD.none (dD b3 (by simp [Vm.look, h23])), hD.none (dD b4 (by simp [Vm.look, h24, h34]))⟩, SubA.refl _⟩
  refine wpList_callE (dd := (⟨[{ target := .fn (.func 9) #[.pointer (some ⟨b2, 0, none⟩), .pointer (some ⟨b3, 0, none⟩), .pointer (some ⟨b4, 0, none⟩)], args := #[] }], .normal⟩ : DefD)) (g := 13) (fs := #[]) (cs := #[]) (vs := [.pointer (some ⟨pb, 0, none⟩)]) (f := .func (.func 13) #[] #[]) hk9 hs9 rfl rfl (by kernel_rfl) (by decide) hcE ?_ ?_
  · rintro ch A1 w' ⟨⟨e, at_, hFE, rfl⟩, hD⟩ hs10 kp10 rr10
    refine fp_fail (A := []) (v2 := .slice none 0 0) (e0 := (scanF (plB s)).1) (a0 := ((scanF (plB s)).2.1 : Nat)) hk9 rfl rfl rfl h23 h24 h34 (hs10.sub hD) ((kpB.trans kp10).sub hD) (rrB.trans rr10) ?_
    exact ⟨_, [], rfl, ⟨e, at_, [], none, 0, PfE (hE _ _ (.err hk0 hFE)), by simp, by simp, rfl, [], rfl, .inl rfl, fun k u r h => by simp at h⟩, Dis.nil _, SubA.nil _⟩
  rintro v' A1 a10 w10 ⟨u, k, r, A2, v2, B2, g1, g2, g3, g4, g5, g6, g7, ⟨y2, y3, y4⟩, hD⟩ hk10 hs10 kp10 rr10
  have hs10 := hs10.sub hD
  have kp10 := kp10.sub hD
  simp only [Exit.inBlock, Exit.then]
  obtain ⟨l1, l2⟩ : j < k ∧ us.length < 64 := FuO.lts g1
  exact ⟨L.length - k, by omega, k, A2, us ++ [u], rs ++ [r], v2, B2, OkE.weak (dd := (⟨[{ target := .fn (.func 9) #[.pointer (some ⟨b2, 0, none⟩), .pointer (some ⟨b3, 0, none⟩), .pointer (some ⟨b4, 0, none⟩)], args := #[] }], .normal⟩ : DefD)) hk10 (by simp only [subE, get_cons, Nat.reduceEqDiff, ↓reduceIte, reduceCtorEq, Nat.reduceAdd, and_self, and_true]), hs10, kpB.trans kp10, rrB.trans rr10, rfl, g4, g6, g2, by rw [List.map_append, List.map_append, hnm]; simp [g3.1], (hall.mono g5).push hlen g3, g7, ⟨y2, y3, y4⟩, fun vs m h => hO _ _ (.step hk0 g1 h), fun e m h => hE _ _ (.step hk0 g1 h), by simp; omega⟩
end Go.Proofs.YtfphceknmgadgaaDoor
