/-
Clearing records: the reference's Check.
Conditions: none.
-/
import Derived.Test.YtkkpmcomloekoaaGreatRec
import Derived.Test.YtkkpmcomloekoaaGreatPanCr
namespace Go.Proofs.YtkkpmcomloekoaaGreat
open Go.Vm
set_option linter.unusedSimpArgs false
set_option linter.unusedVariables false
set_option maxHeartbeats 1000000
set_option maxRecDepth 20000
theorem pbRec4 : type_of% (And.intro @slIndexByte_p (And.intro @indexByte_p (And.intro @indexRune_p (And.intro @containsRune_p (And.intro @classOf_p (And.intro @isWordByte_p (And.intro @letter_p (And.intro @digit_p (And.intro @wordAt_p (And.intro @rword_p (And.intro @isName_p (And.intro @risName_p (And.intro @recId_p (And.intro @rId13_p (And.intro @rId27_p (And.intro @moneyCur_p (And.intro @rCur01_p (And.intro @inTotal_p (And.intro @rwithin1_p (And.intro @monCheck_p (And.intro @rmonCheck_p (And.intro @exKind_p (And.intro @exNames_p (And.intro @exAmount_p (And.intro @exLimits_p (And.intro @exDate_p (@rcheck_p))))))))))))))))))))))))))) := And.intro @slIndexByte_p (And.intro @indexByte_p (And.intro @indexRune_p (And.intro @containsRune_p (And.intro @classOf_p (And.intro @isWordByte_p (And.intro @letter_p (And.intro @digit_p (And.intro @wordAt_p (And.intro @rword_p (And.intro @isName_p (And.intro @risName_p (And.intro @recId_p (And.intro @rId13_p (And.intro @rId27_p (And.intro @moneyCur_p (And.intro @rCur01_p (And.intro @inTotal_p (And.intro @rwithin1_p (And.intro @monCheck_p (And.intro @rmonCheck_p (And.intro @exKind_p (And.intro @exNames_p (And.intro @exAmount_p (And.intro @exLimits_p (And.intro @exDate_p (@rcheck_p))))))))))))))))))))))))))

theorem fF {n : Int} (hn : ¬ n = 0) : (n != 0) = true := by simpa using hn
theorem rrecCheck_h (kd : Int) (id au aq is me ca : ByteArray) (am : Int) (cu : ByteArray) (da ct : Int) (fi : Bool) (z1 : id.size ≤ 9223372036854775807) (z2 : au.size ≤ 9223372036854775807) (z3 : me.size ≤ 9223372036854775807) (h : Heap) : CallsH Tryz.prog 37 #[.agg #[.int .i64 kd, .string id, .string au, .string aq, .string is, .string me, .string ca, .int .i64 am, .string cu, .int .i64 da, .int .i64 ct, .bool fi]] h fun r h' => r = .returned (.int .i64 (chkRG kd id au aq is me ca am cu da ct)) ∧ Grew h h' := by
  refine callsH_of_den ⟨Tryz.prog, 37, Tryz.f37, 89, [0, 1, 2], _⟩ (args := [_]) Tryz.func37 rfl Tryz.ntmps37 (by simp) ?_
  have y1 := rId13_p id z1
  have y2 := rId13_p au z2
  have y3 := rId13_p me z3
  by_cases k1 : kd < 1 ∨ 4 < kd
  · have e : chkRG kd id au aq is me ca am cu da ct = 4 := by simp only [chkRG, k1, if_true]
    by_cases a1 : kd < 1
    · simp only [argE_nil, argE_cons, ↓vmD, vmV, vmStd, Nat.reduceMul, ↓reduceIte, Nat.reduceAdd, Nat.reduceSub, Nat.reduceEqDiff, Nat.reduceLT, Nat.reduceLeDiff, reduceCtorEq, Int.reduceToNat, Int.reduceLT, Int.reduceLE, Int.reduceEq, Int.reduceNeg, Int.reduceBEq, Int.reduceBNe, String.reduceEq, forall_const, tyS, pbRec4, y1, y2, y3, a1]
      exact ⟨by rw [e], .push _ _⟩
    · have a2 : 4 < kd := by omega
      simp only [argE_nil, argE_cons, ↓vmD, vmV, vmStd, Nat.reduceMul, ↓reduceIte, Nat.reduceAdd, Nat.reduceSub, Nat.reduceEqDiff, Nat.reduceLT, Nat.reduceLeDiff, reduceCtorEq, Int.reduceToNat, Int.reduceLT, Int.reduceLE, Int.reduceEq, Int.reduceNeg, Int.reduceBEq, Int.reduceBNe, String.reduceEq, forall_const, tyS, pbRec4, y1, y2, y3, a1, a2]
      exact ⟨by rw [e], .push _ _⟩
  have a1 : ¬ kd < 1 := by omega
  have a2 : ¬ 4 < kd := by omega
  have e5 : namesF id au aq is me = false → chkRG kd id au aq is me ca am cu da ct = 5 := fun k2 => by simp only [chkRG, k1, k2, if_true, if_false]
  cases h1 : idF id with
  | false =>
    simp only [argE_nil, argE_cons, ↓vmD, vmV, vmStd, Nat.reduceMul, ↓reduceIte, Nat.reduceAdd, Nat.reduceSub, Nat.reduceEqDiff, Nat.reduceLT, Nat.reduceLeDiff, reduceCtorEq, Int.reduceToNat, Int.reduceLT, Int.reduceLE, Int.reduceEq, Int.reduceNeg, Int.reduceBEq, Int.reduceBNe, String.reduceEq, forall_const, tyS, pbRec4, y1, y2, y3, a1, a2, h1]
    exact ⟨by rw [e5 (by simp [namesF, h1])], .push _ _⟩
  | true =>
  by_cases hA : ¬ au.toList = [] ∧ idF au = false
  · simp only [argE_nil, argE_cons, ↓vmD, vmV, vmStd, Nat.reduceMul, ↓reduceIte, Nat.reduceAdd, Nat.reduceSub, Nat.reduceEqDiff, Nat.reduceLT, Nat.reduceLeDiff, reduceCtorEq, Int.reduceToNat, Int.reduceLT, Int.reduceLE, Int.reduceEq, Int.reduceNeg, Int.reduceBEq, Int.reduceBNe, String.reduceEq, forall_const, tyS, pbRec4, y1, y2, y3, a1, a2, h1, hA.1, hA.2]
    exact ⟨by rw [e5 (by simp [namesF, h1, hA.1, hA.2])], .push _ _⟩
  have hB : au.toList = [] ∨ (¬ au.toList = [] ∧ idF au = true) := by
    by_cases q : au.toList = []
    · exact .inl q
    · refine .inr ⟨q, ?_⟩
      cases h : idF au with
      | true => rfl
      | false => exact absurd ⟨q, h⟩ hA
  have hB2 : (decide (au.toList = []) || idF au) = true := by rcases hB with q | ⟨_, q⟩ <;> simp [q]
  cases h3 : nameF aq with
  | false =>
    rcases hB with q | ⟨q, q'⟩
    · simp only [argE_nil, argE_cons, ↓vmD, vmV, vmStd, Nat.reduceMul, ↓reduceIte, Nat.reduceAdd, Nat.reduceSub, Nat.reduceEqDiff, Nat.reduceLT, Nat.reduceLeDiff, reduceCtorEq, Int.reduceToNat, Int.reduceLT, Int.reduceLE, Int.reduceEq, Int.reduceNeg, Int.reduceBEq, Int.reduceBNe, String.reduceEq, forall_const, tyS, pbRec4, y1, y2, y3, a1, a2, h1, q, h3]
      exact ⟨by rw [e5 (by simp [namesF, h3])], .push _ _⟩
    · simp only [argE_nil, argE_cons, ↓vmD, vmV, vmStd, Nat.reduceMul, ↓reduceIte, Nat.reduceAdd, Nat.reduceSub, Nat.reduceEqDiff, Nat.reduceLT, Nat.reduceLeDiff, reduceCtorEq, Int.reduceToNat, Int.reduceLT, Int.reduceLE, Int.reduceEq, Int.reduceNeg, Int.reduceBEq, Int.reduceBNe, String.reduceEq, forall_const, tyS, pbRec4, y1, y2, y3, a1, a2, h1, q, q', h3]
      exact ⟨by rw [e5 (by simp [namesF, h3])], .push _ _⟩
  | true =>
  cases h4 : nameF is with
  | false =>
    rcases hB with q | ⟨q, q'⟩
    · simp only [argE_nil, argE_cons, ↓vmD, vmV, vmStd, Nat.reduceMul, ↓reduceIte, Nat.reduceAdd, Nat.reduceSub, Nat.reduceEqDiff, Nat.reduceLT, Nat.reduceLeDiff, reduceCtorEq, Int.reduceToNat, Int.reduceLT, Int.reduceLE, Int.reduceEq, Int.reduceNeg, Int.reduceBEq, Int.reduceBNe, String.reduceEq, forall_const, tyS, pbRec4, y1, y2, y3, a1, a2, h1, q, h3, h4]
      exact ⟨by rw [e5 (by simp [namesF, h4])], .push _ _⟩
    · simp only [argE_nil, argE_cons, ↓vmD, vmV, vmStd, Nat.reduceMul, ↓reduceIte, Nat.reduceAdd, Nat.reduceSub, Nat.reduceEqDiff, Nat.reduceLT, Nat.reduceLeDiff, reduceCtorEq, Int.reduceToNat, Int.reduceLT, Int.reduceLE, Int.reduceEq, Int.reduceNeg, Int.reduceBEq, Int.reduceBNe, String.reduceEq, forall_const, tyS, pbRec4, y1, y2, y3, a1, a2, h1, q, q', h3, h4]
      exact ⟨by rw [e5 (by simp [namesF, h4])], .push _ _⟩
  | true =>
  cases h5 : idF me with
  | false =>
    rcases hB with q | ⟨q, q'⟩
    · simp only [argE_nil, argE_cons, ↓vmD, vmV, vmStd, Nat.reduceMul, ↓reduceIte, Nat.reduceAdd, Nat.reduceSub, Nat.reduceEqDiff, Nat.reduceLT, Nat.reduceLeDiff, reduceCtorEq, Int.reduceToNat, Int.reduceLT, Int.reduceLE, Int.reduceEq, Int.reduceNeg, Int.reduceBEq, Int.reduceBNe, String.reduceEq, forall_const, tyS, pbRec4, y1, y2, y3, a1, a2, h1, q, h3, h4, h5]
      exact ⟨by rw [e5 (by simp [namesF, h5])], .push _ _⟩
    · simp only [argE_nil, argE_cons, ↓vmD, vmV, vmStd, Nat.reduceMul, ↓reduceIte, Nat.reduceAdd, Nat.reduceSub, Nat.reduceEqDiff, Nat.reduceLT, Nat.reduceLeDiff, reduceCtorEq, Int.reduceToNat, Int.reduceLT, Int.reduceLE, Int.reduceEq, Int.reduceNeg, Int.reduceBEq, Int.reduceBNe, String.reduceEq, forall_const, tyS, pbRec4, y1, y2, y3, a1, a2, h1, q, q', h3, h4, h5]
      exact ⟨by rw [e5 (by simp [namesF, h5])], .push _ _⟩
  | true =>
  have k2 : namesF id au aq is me = true := by simp only [namesF, h1, hB2, h3, h4, h5, Bool.and_self]
  have go : ∀ (fs : (idF au = true ∧ ¬ au.toList = []) ∨ au.toList = []), True := fun _ => trivial
  by_cases k3 : chkF ca = 0
  rotate_left
  · have e : chkRG kd id au aq is me ca am cu da ct = 17 := by simp only [chkRG, k1, k2, k3, if_true, if_false, ne_eq, not_false_eq_true, Bool.true_eq_false]
    rcases hB with q | ⟨q, q'⟩
    · simp only [argE_nil, argE_cons, ↓vmD, vmV, vmStd, Nat.reduceMul, ↓reduceIte, Nat.reduceAdd, Nat.reduceSub, Nat.reduceEqDiff, Nat.reduceLT, Nat.reduceLeDiff, reduceCtorEq, Int.reduceToNat, Int.reduceLT, Int.reduceLE, Int.reduceEq, Int.reduceNeg, Int.reduceBEq, Int.reduceBNe, String.reduceEq, forall_const, tyS, pbRec4, y1, y2, y3, a1, a2, h1, q, h3, h4, h5, fF k3]
      exact ⟨by rw [e], .push _ _⟩
    · simp only [argE_nil, argE_cons, ↓vmD, vmV, vmStd, Nat.reduceMul, ↓reduceIte, Nat.reduceAdd, Nat.reduceSub, Nat.reduceEqDiff, Nat.reduceLT, Nat.reduceLeDiff, reduceCtorEq, Int.reduceToNat, Int.reduceLT, Int.reduceLE, Int.reduceEq, Int.reduceNeg, Int.reduceBEq, Int.reduceBNe, String.reduceEq, forall_const, tyS, pbRec4, y1, y2, y3, a1, a2, h1, q, q', h3, h4, h5, fF k3]
      exact ⟨by rw [e], .push _ _⟩
  by_cases k4 : monF am cu = 0
  rotate_left
  · have e : chkRG kd id au aq is me ca am cu da ct = monF am cu := by simp only [chkRG, k1, k2, k3, k4, if_true, if_false, ne_eq, not_false_eq_true, Bool.true_eq_false, not_true_eq_false]
    rcases hB with q | ⟨q, q'⟩
    · simp only [argE_nil, argE_cons, ↓vmD, vmV, vmStd, Nat.reduceMul, ↓reduceIte, Nat.reduceAdd, Nat.reduceSub, Nat.reduceEqDiff, Nat.reduceLT, Nat.reduceLeDiff, reduceCtorEq, Int.reduceToNat, Int.reduceLT, Int.reduceLE, Int.reduceEq, Int.reduceNeg, Int.reduceBEq, Int.reduceBNe, String.reduceEq, forall_const, tyS, pbRec4, y1, y2, y3, a1, a2, h1, q, h3, h4, h5, k3, fF k4]
      exact ⟨by rw [e], by repeat' first | exact .refl _ | apply Grew.pushed⟩
    · simp only [argE_nil, argE_cons, ↓vmD, vmV, vmStd, Nat.reduceMul, ↓reduceIte, Nat.reduceAdd, Nat.reduceSub, Nat.reduceEqDiff, Nat.reduceLT, Nat.reduceLeDiff, reduceCtorEq, Int.reduceToNat, Int.reduceLT, Int.reduceLE, Int.reduceEq, Int.reduceNeg, Int.reduceBEq, Int.reduceBNe, String.reduceEq, forall_const, tyS, pbRec4, y1, y2, y3, a1, a2, h1, q, q', h3, h4, h5, k3, fF k4]
      exact ⟨by rw [e], by repeat' first | exact .refl _ | apply Grew.pushed⟩
  have fin : ∀ x, x = chkRG kd id au aq is me ca am cu da ct → x = chkRG kd id au aq is me ca am cu da ct := fun _ h => h
  by_cases k5 : (am < 1 ∨ 999999999999 < am) ∨ ct < 0 ∨ 9999 < ct
  · have e : chkRG kd id au aq is me ca am cu da ct = 4 := by simp only [chkRG, k1, k2, k3, k4, k5, if_true, if_false, ne_eq, not_false_eq_true, Bool.true_eq_false, not_true_eq_false]
    rcases hB with q | ⟨q, q'⟩
    · simp only [argE_nil, argE_cons, ↓vmD, vmV, vmStd, Nat.reduceMul, ↓reduceIte, Nat.reduceAdd, Nat.reduceSub, Nat.reduceEqDiff, Nat.reduceLT, Nat.reduceLeDiff, reduceCtorEq, Int.reduceToNat, Int.reduceLT, Int.reduceLE, Int.reduceEq, Int.reduceNeg, Int.reduceBEq, Int.reduceBNe, String.reduceEq, forall_const, tyS, pbRec4, y1, y2, y3, a1, a2, h1, q, h3, h4, h5, k3, k4]
      repeat' split
      all_goals first
        | (exfalso; omega)
        | exact ⟨by rw [e], by repeat' first | exact .refl _ | apply Grew.pushed⟩
    · simp only [argE_nil, argE_cons, ↓vmD, vmV, vmStd, Nat.reduceMul, ↓reduceIte, Nat.reduceAdd, Nat.reduceSub, Nat.reduceEqDiff, Nat.reduceLT, Nat.reduceLeDiff, reduceCtorEq, Int.reduceToNat, Int.reduceLT, Int.reduceLE, Int.reduceEq, Int.reduceNeg, Int.reduceBEq, Int.reduceBNe, String.reduceEq, forall_const, tyS, pbRec4, y1, y2, y3, a1, a2, h1, q, q', h3, h4, h5, k3, k4]
      repeat' split
      all_goals first
        | (exfalso; omega)
        | exact ⟨by rw [e], by repeat' first | exact .refl _ | apply Grew.pushed⟩
  have b1 : ¬ am < 1 := by omega
  have b2 : ¬ 999999999999 < am := by omega
  have b3 : ¬ ct < 0 := by omega
  have b4 : ¬ 9999 < ct := by omega
  by_cases k6 : da < 0 ∨ 99999 < da
  · have e : chkRG kd id au aq is me ca am cu da ct = 14 := by simp only [chkRG, k1, k2, k3, k4, k5, k6, if_true, if_false, ne_eq, not_false_eq_true, Bool.true_eq_false, not_true_eq_false]
    rcases hB with q | ⟨q, q'⟩
    · simp only [argE_nil, argE_cons, ↓vmD, vmV, vmStd, Nat.reduceMul, ↓reduceIte, Nat.reduceAdd, Nat.reduceSub, Nat.reduceEqDiff, Nat.reduceLT, Nat.reduceLeDiff, reduceCtorEq, Int.reduceToNat, Int.reduceLT, Int.reduceLE, Int.reduceEq, Int.reduceNeg, Int.reduceBEq, Int.reduceBNe, String.reduceEq, forall_const, tyS, pbRec4, y1, y2, y3, a1, a2, h1, q, h3, h4, h5, k3, k4, b1, b2, b3, b4]
      repeat' split
      all_goals first
        | (exfalso; omega)
        | exact ⟨by rw [e], by repeat' first | exact .refl _ | apply Grew.pushed⟩
    · simp only [argE_nil, argE_cons, ↓vmD, vmV, vmStd, Nat.reduceMul, ↓reduceIte, Nat.reduceAdd, Nat.reduceSub, Nat.reduceEqDiff, Nat.reduceLT, Nat.reduceLeDiff, reduceCtorEq, Int.reduceToNat, Int.reduceLT, Int.reduceLE, Int.reduceEq, Int.reduceNeg, Int.reduceBEq, Int.reduceBNe, String.reduceEq, forall_const, tyS, pbRec4, y1, y2, y3, a1, a2, h1, q, q', h3, h4, h5, k3, k4, b1, b2, b3, b4]
      repeat' split
      all_goals first
        | (exfalso; omega)
        | exact ⟨by rw [e], by repeat' first | exact .refl _ | apply Grew.pushed⟩
  have c1 : ¬ da < 0 := by omega
  have c2 : ¬ 99999 < da := by omega
  have e : chkRG kd id au aq is me ca am cu da ct = 0 := by simp only [chkRG, k1, k2, k3, k4, k5, k6, if_true, if_false, ne_eq, not_false_eq_true, Bool.true_eq_false, not_true_eq_false]
  rcases hB with q | ⟨q, q'⟩
  · simp only [argE_nil, argE_cons, ↓vmD, vmV, vmStd, Nat.reduceMul, ↓reduceIte, Nat.reduceAdd, Nat.reduceSub, Nat.reduceEqDiff, Nat.reduceLT, Nat.reduceLeDiff, reduceCtorEq, Int.reduceToNat, Int.reduceLT, Int.reduceLE, Int.reduceEq, Int.reduceNeg, Int.reduceBEq, Int.reduceBNe, String.reduceEq, forall_const, tyS, pbRec4, y1, y2, y3, a1, a2, h1, q, h3, h4, h5, k3, k4, b1, b2, b3, b4, c1, c2]
    exact ⟨by rw [e], by repeat' first | exact .refl _ | apply Grew.pushed⟩
  · simp only [argE_nil, argE_cons, ↓vmD, vmV, vmStd, Nat.reduceMul, ↓reduceIte, Nat.reduceAdd, Nat.reduceSub, Nat.reduceEqDiff, Nat.reduceLT, Nat.reduceLeDiff, reduceCtorEq, Int.reduceToNat, Int.reduceLT, Int.reduceLE, Int.reduceEq, Int.reduceNeg, Int.reduceBEq, Int.reduceBNe, String.reduceEq, forall_const, tyS, pbRec4, y1, y2, y3, a1, a2, h1, q, q', h3, h4, h5, k3, k4, b1, b2, b3, b4, c1, c2]
    exact ⟨by rw [e], by repeat' first | exact .refl _ | apply Grew.pushed⟩
theorem rrecCheck_v (kd : Int) (id au aq is me ca : ByteArray) (am : Int) (cu : ByteArray) (da ct : Int) (fi : Bool) (z1 : id.size ≤ 9223372036854775807) (z2 : au.size ≤ 9223372036854775807) (z3 : me.size ≤ 9223372036854775807) (A_ : AH) : valA Tryz.prog 37 #[.agg #[.int .i64 kd, .string id, .string au, .string aq, .string is, .string me, .string ca, .int .i64 am, .string cu, .int .i64 da, .int .i64 ct, .bool fi]] A_ = some (.int .i64 (chkRG kd id au aq is me ca am cu da ct)) := pureA_h (by kernel_rfl) (by kernel_rfl) (fun h => rrecCheck_h kd id au aq is me ca am cu da ct fi z1 z2 z3 h)
end Go.Proofs.YtkkpmcomloekoaaGreat
