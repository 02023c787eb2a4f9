/-
Authorizations: the reference's checks.
Conditions: none.
-/
import Derived.Test.YthahheeahdhepaaRec4
namespace Go.Proofs.Ythahheeahdhepaa
open Go.Vm
set_option linter.unusedSimpArgs false
set_option linter.unusedVariables false
set_option maxHeartbeats 1000000
set_option maxRecDepth 20000

theorem within27_h (n lo hi : Int) (h : Heap) : CallsH Try.prog 48 #[.int .i64 n, .int .i64 lo, .int .i64 hi] h fun r h' => r = .returned (.bool (decide (lo ≤ n) && decide (n ≤ hi))) ∧ h' = h := by
  refine callsH_of_den ⟨Try.prog, 48, Try.f48, 15, [0, 1, 2, 6], _⟩ (args := [_, _, _]) Try.func48 rfl Try.ntmps48 (by simp) ?_
  simp only [argE_nil, argE_cons, ↓vmD, vmV, vmStd, Nat.reduceMul, ↓reduceIte, Nat.reduceAdd, Nat.reduceSub, Nat.reduceEqDiff, Nat.reduceLT, Nat.reduceLeDiff, reduceCtorEq, Int.reduceToNat, Int.reduceLT, Int.reduceLE, Int.reduceEq, Int.reduceNeg, Int.reduceBEq, Int.reduceBNe, String.reduceEq, forall_const, tyS, slIndexByte_p, indexByte_p, indexRune_p, containsRune_p, classOf_p, isWordByte_p, letter_p, digit_p, wordAt_p, rword_p, isName_p, risName_p, recId_p, authId_p, rId13_p, rId27_p, moneyCur_p, authCur_p, rCur27_p, rCur01_p, isPart_p, funds_p, settled_p, rcheck_p, inTotal_p, rwithin1_p, monCheck_p, rmonCheck_p, exKind_p, exNames_p, exAmount_p, exLimits_p, exDate_p]
theorem within27_p (n lo hi : Int) (h : Heap) (Q : Ending → Heap → Prop) : CallsX Try.prog 48 #[.int .i64 n, .int .i64 lo, .int .i64 hi] h Q = Q (.returned (.bool (decide (lo ≤ n) && decide (n ≤ hi)))) (h) := CallsX.exact (by kernel_rfl) (within27_h n lo hi h)
theorem within27_q (n lo hi : Int) (h : Heap) (nt_ : Nat) (dst_ : Option Nat) (ρ_ : Env) (K_ : Env → Prop) : callQ Try.prog nt_ dst_ (.func (.func 48) #[] #[]) [.int .i64 n, .int .i64 lo, .int .i64 hi] ρ_ h K_ = putK nt_ dst_ (.bool (decide (lo ≤ n) && decide (n ≤ hi))) ρ_ K_ := callQ_exact (by kernel_rfl) (by kernel_rfl) (within27_h n lo hi h)
theorem within27_v (n lo hi : Int) (A_ : AH) : valA Try.prog 48 #[.int .i64 n, .int .i64 lo, .int .i64 hi] A_ = some (.bool (decide (lo ≤ n) && decide (n ≤ hi))) := pureA_e (by kernel_rfl) (by kernel_rfl) (fun h => within27_h n lo hi h)
theorem state27_h (id cu : ByteArray) (ap rv cl ex st tm un pa : Int) (hr : rngP ap rv cl ex) (h : Heap) : CallsH Try.prog 49 #[.agg #[.string id, .string cu, .int .i64 ap, .int .i64 rv, .int .i64 cl, .int .i64 ex, .int .i64 st, .int .i64 tm, .int .i64 un, .int .i64 pa]] h fun r h' => r = .returned (.int .i64 (stF (ap - rv - cl - ex) ex cl)) ∧ h' = h.push (.cells #[.string id, .string cu, .int .i64 ap, .int .i64 rv, .int .i64 cl, .int .i64 ex, .int .i64 st, .int .i64 tm, .int .i64 un, .int .i64 pa] 23) := by
  refine callsH_of_den ⟨Try.prog, 49, Try.f49, 21, [0, 1, 2], _⟩ (args := [_]) Try.func49 rfl Try.ntmps49 (by simp) ?_
  by_cases h1 : 0 < ap - rv - cl - ex
  · have e : stF (ap - rv - cl - ex) ex cl = 1 := by simp only [stF, h1, if_true]
    rw [e]
    simp only [argE_nil, argE_cons, ↓vmD, vmV, vmStd, Nat.reduceMul, ↓reduceIte, Nat.reduceAdd, Nat.reduceSub, Nat.reduceEqDiff, Nat.reduceLT, Nat.reduceLeDiff, reduceCtorEq, Int.reduceToNat, Int.reduceLT, Int.reduceLE, Int.reduceEq, Int.reduceNeg, Int.reduceBEq, Int.reduceBNe, String.reduceEq, forall_const, tyS, slIndexByte_p, indexByte_p, indexRune_p, containsRune_p, classOf_p, isWordByte_p, letter_p, digit_p, wordAt_p, rword_p, isName_p, risName_p, recId_p, authId_p, rId13_p, rId27_p, moneyCur_p, authCur_p, rCur27_p, rCur01_p, isPart_p, funds_p, settled_p, rcheck_p, inTotal_p, rwithin1_p, monCheck_p, rmonCheck_p, exKind_p, exNames_p, exAmount_p, exLimits_p, exDate_p, within27_p, fundsW hr, h1]
  by_cases h2 : 0 < ex
  · have e : stF (ap - rv - cl - ex) ex cl = 4 := by simp only [stF, h1, h2, if_true, if_false]
    rw [e]
    simp only [argE_nil, argE_cons, ↓vmD, vmV, vmStd, Nat.reduceMul, ↓reduceIte, Nat.reduceAdd, Nat.reduceSub, Nat.reduceEqDiff, Nat.reduceLT, Nat.reduceLeDiff, reduceCtorEq, Int.reduceToNat, Int.reduceLT, Int.reduceLE, Int.reduceEq, Int.reduceNeg, Int.reduceBEq, Int.reduceBNe, String.reduceEq, forall_const, tyS, slIndexByte_p, indexByte_p, indexRune_p, containsRune_p, classOf_p, isWordByte_p, letter_p, digit_p, wordAt_p, rword_p, isName_p, risName_p, recId_p, authId_p, rId13_p, rId27_p, moneyCur_p, authCur_p, rCur27_p, rCur01_p, isPart_p, funds_p, settled_p, rcheck_p, inTotal_p, rwithin1_p, monCheck_p, rmonCheck_p, exKind_p, exNames_p, exAmount_p, exLimits_p, exDate_p, within27_p, fundsW hr, h1, h2]
  by_cases h3 : 0 < cl
  · have e : stF (ap - rv - cl - ex) ex cl = 2 := by simp only [stF, h1, h2, h3, if_true, if_false]
    rw [e]
    simp only [argE_nil, argE_cons, ↓vmD, vmV, vmStd, Nat.reduceMul, ↓reduceIte, Nat.reduceAdd, Nat.reduceSub, Nat.reduceEqDiff, Nat.reduceLT, Nat.reduceLeDiff, reduceCtorEq, Int.reduceToNat, Int.reduceLT, Int.reduceLE, Int.reduceEq, Int.reduceNeg, Int.reduceBEq, Int.reduceBNe, String.reduceEq, forall_const, tyS, slIndexByte_p, indexByte_p, indexRune_p, containsRune_p, classOf_p, isWordByte_p, letter_p, digit_p, wordAt_p, rword_p, isName_p, risName_p, recId_p, authId_p, rId13_p, rId27_p, moneyCur_p, authCur_p, rCur27_p, rCur01_p, isPart_p, funds_p, settled_p, rcheck_p, inTotal_p, rwithin1_p, monCheck_p, rmonCheck_p, exKind_p, exNames_p, exAmount_p, exLimits_p, exDate_p, within27_p, fundsW hr, h1, h2, h3]
  have e : stF (ap - rv - cl - ex) ex cl = 3 := by simp only [stF, h1, h2, h3, if_false]
  rw [e]
  simp only [argE_nil, argE_cons, ↓vmD, vmV, vmStd, Nat.reduceMul, ↓reduceIte, Nat.reduceAdd, Nat.reduceSub, Nat.reduceEqDiff, Nat.reduceLT, Nat.reduceLeDiff, reduceCtorEq, Int.reduceToNat, Int.reduceLT, Int.reduceLE, Int.reduceEq, Int.reduceNeg, Int.reduceBEq, Int.reduceBNe, String.reduceEq, forall_const, tyS, slIndexByte_p, indexByte_p, indexRune_p, containsRune_p, classOf_p, isWordByte_p, letter_p, digit_p, wordAt_p, rword_p, isName_p, risName_p, recId_p, authId_p, rId13_p, rId27_p, moneyCur_p, authCur_p, rCur27_p, rCur01_p, isPart_p, funds_p, settled_p, rcheck_p, inTotal_p, rwithin1_p, monCheck_p, rmonCheck_p, exKind_p, exNames_p, exAmount_p, exLimits_p, exDate_p, within27_p, fundsW hr, h1, h2, h3]
theorem state27_p (id cu : ByteArray) (ap rv cl ex st tm un pa : Int) (hr : rngP ap rv cl ex) (h : Heap) (Q : Ending → Heap → Prop) : CallsX Try.prog 49 #[.agg #[.string id, .string cu, .int .i64 ap, .int .i64 rv, .int .i64 cl, .int .i64 ex, .int .i64 st, .int .i64 tm, .int .i64 un, .int .i64 pa]] h Q = Q (.returned (.int .i64 (stF (ap - rv - cl - ex) ex cl))) (h.push (.cells #[.string id, .string cu, .int .i64 ap, .int .i64 rv, .int .i64 cl, .int .i64 ex, .int .i64 st, .int .i64 tm, .int .i64 un, .int .i64 pa] 23)) := CallsX.exact (by kernel_rfl) (state27_h id cu ap rv cl ex st tm un pa hr h)
theorem rauthCheck_h (id cu : ByteArray) (ap rv cl ex st tm un pa : Int) (h1 : id.size ≤ 100000) (h2 : cu.size ≤ 100000) (h : Heap) : CallsH Try.prog 32 #[.agg #[.string id, .string cu, .int .i64 ap, .int .i64 rv, .int .i64 cl, .int .i64 ex, .int .i64 st, .int .i64 tm, .int .i64 un, .int .i64 pa]] h fun r h' => r = .returned (.int .i64 (chkG id cu ap rv cl ex st tm un pa)) ∧ Grew h h' := by
  refine callsH_of_den ⟨Try.prog, 32, Try.f32, 103, [0, 1, 2], _⟩ (args := [_]) Try.func32 rfl Try.ntmps32 (by simp) ?_
  cases hi : idF id with
  | false =>
    simp only [argE_nil, argE_cons, ↓vmD, vmV, vmStd, Nat.reduceMul, ↓reduceIte, Nat.reduceAdd, Nat.reduceSub, Nat.reduceEqDiff, Nat.reduceLT, Nat.reduceLeDiff, reduceCtorEq, Int.reduceToNat, Int.reduceLT, Int.reduceLE, Int.reduceEq, Int.reduceNeg, Int.reduceBEq, Int.reduceBNe, String.reduceEq, forall_const, tyS, slIndexByte_p, indexByte_p, indexRune_p, containsRune_p, classOf_p, isWordByte_p, letter_p, digit_p, wordAt_p, rword_p, isName_p, risName_p, recId_p, authId_p, rId13_p, rId27_p, moneyCur_p, authCur_p, rCur27_p, rCur01_p, isPart_p, funds_p, settled_p, rcheck_p, inTotal_p, rwithin1_p, monCheck_p, rmonCheck_p, exKind_p, exNames_p, exAmount_p, exLimits_p, exDate_p, within27_p, state27_p, h1, h2, hi]
    exact ⟨by simp [chkG, hi], .push _ _⟩
  | true =>
  cases hc : curF cu with
  | false =>
    simp only [argE_nil, argE_cons, ↓vmD, vmV, vmStd, Nat.reduceMul, ↓reduceIte, Nat.reduceAdd, Nat.reduceSub, Nat.reduceEqDiff, Nat.reduceLT, Nat.reduceLeDiff, reduceCtorEq, Int.reduceToNat, Int.reduceLT, Int.reduceLE, Int.reduceEq, Int.reduceNeg, Int.reduceBEq, Int.reduceBNe, String.reduceEq, forall_const, tyS, slIndexByte_p, indexByte_p, indexRune_p, containsRune_p, classOf_p, isWordByte_p, letter_p, digit_p, wordAt_p, rword_p, isName_p, risName_p, recId_p, authId_p, rId13_p, rId27_p, moneyCur_p, authCur_p, rCur27_p, rCur01_p, isPart_p, funds_p, settled_p, rcheck_p, inTotal_p, rwithin1_p, monCheck_p, rmonCheck_p, exKind_p, exNames_p, exAmount_p, exLimits_p, exDate_p, within27_p, state27_p, h1, h2, hi, hc]
    exact ⟨by simp [chkG, hi, hc], .push _ _⟩
  | true =>
  by_cases hr : rngP ap rv cl ex
  rotate_left
  · have e4 : chkG id cu ap rv cl ex st tm un pa = 4 := by simp [chkG, hi, hc, hr]
    cases b1 : (decide (1 ≤ ap) && decide (ap ≤ 999999999999)) with
    | false =>
      simp only [argE_nil, argE_cons, ↓vmD, vmV, vmStd, Nat.reduceMul, ↓reduceIte, Nat.reduceAdd, Nat.reduceSub, Nat.reduceEqDiff, Nat.reduceLT, Nat.reduceLeDiff, reduceCtorEq, Int.reduceToNat, Int.reduceLT, Int.reduceLE, Int.reduceEq, Int.reduceNeg, Int.reduceBEq, Int.reduceBNe, String.reduceEq, forall_const, tyS, slIndexByte_p, indexByte_p, indexRune_p, containsRune_p, classOf_p, isWordByte_p, letter_p, digit_p, wordAt_p, rword_p, isName_p, risName_p, recId_p, authId_p, rId13_p, rId27_p, moneyCur_p, authCur_p, rCur27_p, rCur01_p, isPart_p, funds_p, settled_p, rcheck_p, inTotal_p, rwithin1_p, monCheck_p, rmonCheck_p, exKind_p, exNames_p, exAmount_p, exLimits_p, exDate_p, within27_p, state27_p, h1, h2, hi, hc, within27_p, b1]
      exact ⟨by rw [e4], .push _ _⟩
    | true =>
    cases b2 : (decide (0 ≤ rv) && decide (rv ≤ 999999999999)) with
    | false =>
      simp only [argE_nil, argE_cons, ↓vmD, vmV, vmStd, Nat.reduceMul, ↓reduceIte, Nat.reduceAdd, Nat.reduceSub, Nat.reduceEqDiff, Nat.reduceLT, Nat.reduceLeDiff, reduceCtorEq, Int.reduceToNat, Int.reduceLT, Int.reduceLE, Int.reduceEq, Int.reduceNeg, Int.reduceBEq, Int.reduceBNe, String.reduceEq, forall_const, tyS, slIndexByte_p, indexByte_p, indexRune_p, containsRune_p, classOf_p, isWordByte_p, letter_p, digit_p, wordAt_p, rword_p, isName_p, risName_p, recId_p, authId_p, rId13_p, rId27_p, moneyCur_p, authCur_p, rCur27_p, rCur01_p, isPart_p, funds_p, settled_p, rcheck_p, inTotal_p, rwithin1_p, monCheck_p, rmonCheck_p, exKind_p, exNames_p, exAmount_p, exLimits_p, exDate_p, within27_p, state27_p, h1, h2, hi, hc, b1, b2]
      exact ⟨by rw [e4], .push _ _⟩
    | true =>
    cases b3 : (decide (0 ≤ cl) && decide (cl ≤ 999999999999)) with
    | false =>
      simp only [argE_nil, argE_cons, ↓vmD, vmV, vmStd, Nat.reduceMul, ↓reduceIte, Nat.reduceAdd, Nat.reduceSub, Nat.reduceEqDiff, Nat.reduceLT, Nat.reduceLeDiff, reduceCtorEq, Int.reduceToNat, Int.reduceLT, Int.reduceLE, Int.reduceEq, Int.reduceNeg, Int.reduceBEq, Int.reduceBNe, String.reduceEq, forall_const, tyS, slIndexByte_p, indexByte_p, indexRune_p, containsRune_p, classOf_p, isWordByte_p, letter_p, digit_p, wordAt_p, rword_p, isName_p, risName_p, recId_p, authId_p, rId13_p, rId27_p, moneyCur_p, authCur_p, rCur27_p, rCur01_p, isPart_p, funds_p, settled_p, rcheck_p, inTotal_p, rwithin1_p, monCheck_p, rmonCheck_p, exKind_p, exNames_p, exAmount_p, exLimits_p, exDate_p, within27_p, state27_p, h1, h2, hi, hc, b1, b2, b3]
      exact ⟨by rw [e4], .push _ _⟩
    | true =>
    cases b4 : (decide (0 ≤ ex) && decide (ex ≤ 999999999999)) with
    | false =>
      simp only [argE_nil, argE_cons, ↓vmD, vmV, vmStd, Nat.reduceMul, ↓reduceIte, Nat.reduceAdd, Nat.reduceSub, Nat.reduceEqDiff, Nat.reduceLT, Nat.reduceLeDiff, reduceCtorEq, Int.reduceToNat, Int.reduceLT, Int.reduceLE, Int.reduceEq, Int.reduceNeg, Int.reduceBEq, Int.reduceBNe, String.reduceEq, forall_const, tyS, slIndexByte_p, indexByte_p, indexRune_p, containsRune_p, classOf_p, isWordByte_p, letter_p, digit_p, wordAt_p, rword_p, isName_p, risName_p, recId_p, authId_p, rId13_p, rId27_p, moneyCur_p, authCur_p, rCur27_p, rCur01_p, isPart_p, funds_p, settled_p, rcheck_p, inTotal_p, rwithin1_p, monCheck_p, rmonCheck_p, exKind_p, exNames_p, exAmount_p, exLimits_p, exDate_p, within27_p, state27_p, h1, h2, hi, hc, b1, b2, b3, b4]
      exact ⟨by rw [e4], .push _ _⟩
    | true =>
      exfalso
      apply hr
      simp only [Bool.and_eq_true, decide_eq_true_eq] at b1 b2 b3 b4
      exact ⟨b1, b2, b3, b4⟩
  have r1 : (1 ≤ ap) = True := eq_true (by unfold rngP at hr; omega)
  have r2 : (ap ≤ 999999999999) = True := eq_true (by unfold rngP at hr; omega)
  have r3 : ((0 ≤ rv) = True ∧ (rv ≤ 999999999999) = True) := ⟨eq_true (by unfold rngP at hr; omega), eq_true (by unfold rngP at hr; omega)⟩
  have r4 : ((0 ≤ cl) = True ∧ (cl ≤ 999999999999) = True) := ⟨eq_true (by unfold rngP at hr; omega), eq_true (by unfold rngP at hr; omega)⟩
  have r5 : ((0 ≤ ex) = True ∧ (ex ≤ 999999999999) = True) := ⟨eq_true (by unfold rngP at hr; omega), eq_true (by unfold rngP at hr; omega)⟩
  have ws : IntKind.i64.wrap (IntKind.i64.wrap (rv + cl) + ex) = rv + cl + ex := by
    unfold rngP at hr
    rw [w_i64 (n := rv + cl) (by omega) (by omega), w_i64 (by omega) (by omega)]
  by_cases hf : ap - rv - cl - ex < 0
  · have e : chkG id cu ap rv cl ex st tm un pa = 26 := by simp [chkG, hi, hc, hr, hf]
    have hf2 : ap < rv + cl + ex := by omega
    simp only [argE_nil, argE_cons, ↓vmD, vmV, vmStd, Nat.reduceMul, ↓reduceIte, Nat.reduceAdd, Nat.reduceSub, Nat.reduceEqDiff, Nat.reduceLT, Nat.reduceLeDiff, reduceCtorEq, Int.reduceToNat, Int.reduceLT, Int.reduceLE, Int.reduceEq, Int.reduceNeg, Int.reduceBEq, Int.reduceBNe, String.reduceEq, forall_const, tyS, slIndexByte_p, indexByte_p, indexRune_p, containsRune_p, classOf_p, isWordByte_p, letter_p, digit_p, wordAt_p, rword_p, isName_p, risName_p, recId_p, authId_p, rId13_p, rId27_p, moneyCur_p, authCur_p, rCur27_p, rCur01_p, isPart_p, funds_p, settled_p, rcheck_p, inTotal_p, rwithin1_p, monCheck_p, rmonCheck_p, exKind_p, exNames_p, exAmount_p, exLimits_p, exDate_p, within27_p, state27_p, h1, h2, hi, hc, hr, r1, r2, r3, r4, r5, ws, hf2]
    exact ⟨by rw [e], .push _ _⟩
  have hf2 : ¬ ap < rv + cl + ex := by omega
  by_cases ht : timeP tm un
  rotate_left
  · have e : chkG id cu ap rv cl ex st tm un pa = 14 := by simp [chkG, hi, hc, hr, hf, ht]
    simp only [argE_nil, argE_cons, ↓vmD, vmV, vmStd, Nat.reduceMul, ↓reduceIte, Nat.reduceAdd, Nat.reduceSub, Nat.reduceEqDiff, Nat.reduceLT, Nat.reduceLeDiff, reduceCtorEq, Int.reduceToNat, Int.reduceLT, Int.reduceLE, Int.reduceEq, Int.reduceNeg, Int.reduceBEq, Int.reduceBNe, String.reduceEq, forall_const, tyS, slIndexByte_p, indexByte_p, indexRune_p, containsRune_p, classOf_p, isWordByte_p, letter_p, digit_p, wordAt_p, rword_p, isName_p, risName_p, recId_p, authId_p, rId13_p, rId27_p, moneyCur_p, authCur_p, rCur27_p, rCur01_p, isPart_p, funds_p, settled_p, rcheck_p, inTotal_p, rwithin1_p, monCheck_p, rmonCheck_p, exKind_p, exNames_p, exAmount_p, exLimits_p, exDate_p, within27_p, state27_p, h1, h2, hi, hc, hr, r1, r2, r3, r4, r5, ws, hf2]
    repeat' split
    all_goals first
      | (exfalso; apply ht; unfold timeP; omega)
      | exact ⟨by rw [e], .push _ _⟩
  have t1 : (tm < 0) = False := eq_false (by unfold timeP at ht; omega)
  have t2 : (1099511627776 < tm) = False := eq_false (by unfold timeP at ht; omega)
  have t3 : (un ≤ tm) = False := eq_false (by unfold timeP at ht; omega)
  have t4 : (1099511627776 < un) = False := eq_false (by unfold timeP at ht; omega)
  by_cases hp : partsP cl pa
  rotate_left
  · have e : chkG id cu ap rv cl ex st tm un pa = 4 := by simp [chkG, hi, hc, hr, hf, ht, hp]
    simp only [argE_nil, argE_cons, ↓vmD, vmV, vmStd, Nat.reduceMul, ↓reduceIte, Nat.reduceAdd, Nat.reduceSub, Nat.reduceEqDiff, Nat.reduceLT, Nat.reduceLeDiff, reduceCtorEq, Int.reduceToNat, Int.reduceLT, Int.reduceLE, Int.reduceEq, Int.reduceNeg, Int.reduceBEq, Int.reduceBNe, String.reduceEq, forall_const, tyS, slIndexByte_p, indexByte_p, indexRune_p, containsRune_p, classOf_p, isWordByte_p, letter_p, digit_p, wordAt_p, rword_p, isName_p, risName_p, recId_p, authId_p, rId13_p, rId27_p, moneyCur_p, authCur_p, rCur27_p, rCur01_p, isPart_p, funds_p, settled_p, rcheck_p, inTotal_p, rwithin1_p, monCheck_p, rmonCheck_p, exKind_p, exNames_p, exAmount_p, exLimits_p, exDate_p, within27_p, state27_p, h1, h2, hi, hc, hr, r1, r2, r3, r4, r5, ws, hf2, t1, t2, t3, t4]
    repeat' split
    all_goals first
      | (exfalso; apply hp; unfold partsP; simp only [beq0, Decidable.not_not] at *; omega)
      | exact ⟨by rw [e], .push _ _⟩
  have p1 : (pa < 0) = False := eq_false (by unfold partsP at hp; omega)
  have p2 : (8 < pa) = False := eq_false (by unfold partsP at hp; omega)
  have p3 : (cl < pa) = False := eq_false (by unfold partsP at hp; omega)
  have p4 : (pa == 0) = (cl == 0) := by unfold partsP at hp; rw [beq0]; omega
  simp only [argE_nil, argE_cons, ↓vmD, vmV, vmStd, Nat.reduceMul, ↓reduceIte, Nat.reduceAdd, Nat.reduceSub, Nat.reduceEqDiff, Nat.reduceLT, Nat.reduceLeDiff, reduceCtorEq, Int.reduceToNat, Int.reduceLT, Int.reduceLE, Int.reduceEq, Int.reduceNeg, Int.reduceBEq, Int.reduceBNe, String.reduceEq, forall_const, tyS, slIndexByte_p, indexByte_p, indexRune_p, containsRune_p, classOf_p, isWordByte_p, letter_p, digit_p, wordAt_p, rword_p, isName_p, risName_p, recId_p, authId_p, rId13_p, rId27_p, moneyCur_p, authCur_p, rCur27_p, rCur01_p, isPart_p, funds_p, settled_p, rcheck_p, inTotal_p, rwithin1_p, monCheck_p, rmonCheck_p, exKind_p, exNames_p, exAmount_p, exLimits_p, exDate_p, within27_p, state27_p, h1, h2, hi, hc, hr, r1, r2, r3, r4, r5, ws, hf2, t1, t2, t3, t4, p1, p2, p3, p4]
  refine Meant.held [Array.size h] [0, 1, 2, 3, 4, 5, 6, 7, 8, 9, 10, 11, 12, 13, 14] (by kernel_rfl) (by kernel_rfl) rfl (by kernel_rfl) ?_
  have hst : stateP ap rv cl ex st ↔ (st = stF (ap - rv - cl - ex) ex cl ∧ ¬ (st = 1 ∧ ex ≠ 0)) := Iff.rfl
  have n1 : (Array.size h = Array.size h + 1) = False := eq_false (by omega)
  by_cases hs : st = stF (ap - rv - cl - ex) ex cl
  · have q1 : (st != stF (ap - rv - cl - ex) ex cl) = false := by rw [bne, beq_iff_eq.2 hs]; rfl
    by_cases h1s : st = 1
    · have q2 : (st == 1) = true := by rw [beq_iff_eq]; exact h1s
      by_cases hx : ex = 0
      · have q3 : (ex != 0) = false := by simp [hx]
        have e : chkG id cu ap rv cl ex st tm un pa = 0 := by
          have : stateP ap rv cl ex st := ⟨hs, fun h => h.2 hx⟩
          simp only [chkG, hi, hc, hr, hf, ht, hp, this, Bool.true_eq_false, if_false, not_true_eq_false]
        simp only [argE_nil, argE_cons, ↓vmD, vmV, vmStd, Nat.reduceMul, ↓reduceIte, Nat.reduceAdd, Nat.reduceSub, Nat.reduceEqDiff, Nat.reduceLT, Nat.reduceLeDiff, reduceCtorEq, Int.reduceToNat, Int.reduceLT, Int.reduceLE, Int.reduceEq, Int.reduceNeg, Int.reduceBEq, Int.reduceBNe, String.reduceEq, forall_const, ↓vmH, same_nil, same_cons, List.mem_cons, tyS, slIndexByte_p, indexByte_p, indexRune_p, containsRune_p, classOf_p, isWordByte_p, letter_p, digit_p, wordAt_p, rword_p, isName_p, risName_p, recId_p, authId_p, rId13_p, rId27_p, moneyCur_p, authCur_p, rCur27_p, rCur01_p, isPart_p, funds_p, settled_p, rcheck_p, inTotal_p, rwithin1_p, monCheck_p, rmonCheck_p, exKind_p, exNames_p, exAmount_p, exLimits_p, exDate_p, within27_p, state27_p, hr, q1, q2, q3]
        exact ⟨by rw [e], by repeat' first | exact .refl _ | apply Grew.pushed⟩
      · have q3 : (ex != 0) = true := by simpa using hx
        have e : chkG id cu ap rv cl ex st tm un pa = 8 := by
          have : ¬ stateP ap rv cl ex st := fun h => h.2 ⟨h1s, hx⟩
          simp only [chkG, hi, hc, hr, hf, ht, hp, this, Bool.true_eq_false, if_false, not_true_eq_false, not_false_eq_true, if_true]
        simp only [argE_nil, argE_cons, ↓vmD, vmV, vmStd, Nat.reduceMul, ↓reduceIte, Nat.reduceAdd, Nat.reduceSub, Nat.reduceEqDiff, Nat.reduceLT, Nat.reduceLeDiff, reduceCtorEq, Int.reduceToNat, Int.reduceLT, Int.reduceLE, Int.reduceEq, Int.reduceNeg, Int.reduceBEq, Int.reduceBNe, String.reduceEq, forall_const, ↓vmH, same_nil, same_cons, List.mem_cons, tyS, slIndexByte_p, indexByte_p, indexRune_p, containsRune_p, classOf_p, isWordByte_p, letter_p, digit_p, wordAt_p, rword_p, isName_p, risName_p, recId_p, authId_p, rId13_p, rId27_p, moneyCur_p, authCur_p, rCur27_p, rCur01_p, isPart_p, funds_p, settled_p, rcheck_p, inTotal_p, rwithin1_p, monCheck_p, rmonCheck_p, exKind_p, exNames_p, exAmount_p, exLimits_p, exDate_p, within27_p, state27_p, hr, q1, q2, q3]
        exact ⟨by rw [e], by repeat' first | exact .refl _ | apply Grew.pushed⟩
    · have q2 : (st == 1) = false := by rw [beq_eq_false_iff_ne]; exact h1s
      have e : chkG id cu ap rv cl ex st tm un pa = 0 := by
        have : stateP ap rv cl ex st := ⟨hs, fun h => h1s h.1⟩
        simp only [chkG, hi, hc, hr, hf, ht, hp, this, Bool.true_eq_false, if_false, not_true_eq_false]
      simp only [argE_nil, argE_cons, ↓vmD, vmV, vmStd, Nat.reduceMul, ↓reduceIte, Nat.reduceAdd, Nat.reduceSub, Nat.reduceEqDiff, Nat.reduceLT, Nat.reduceLeDiff, reduceCtorEq, Int.reduceToNat, Int.reduceLT, Int.reduceLE, Int.reduceEq, Int.reduceNeg, Int.reduceBEq, Int.reduceBNe, String.reduceEq, forall_const, ↓vmH, same_nil, same_cons, List.mem_cons, tyS, slIndexByte_p, indexByte_p, indexRune_p, containsRune_p, classOf_p, isWordByte_p, letter_p, digit_p, wordAt_p, rword_p, isName_p, risName_p, recId_p, authId_p, rId13_p, rId27_p, moneyCur_p, authCur_p, rCur27_p, rCur01_p, isPart_p, funds_p, settled_p, rcheck_p, inTotal_p, rwithin1_p, monCheck_p, rmonCheck_p, exKind_p, exNames_p, exAmount_p, exLimits_p, exDate_p, within27_p, state27_p, hr, q1, q2]
      exact ⟨by rw [e], by repeat' first | exact .refl _ | apply Grew.pushed⟩
  · have q1 : (st != stF (ap - rv - cl - ex) ex cl) = true := by rw [bne, beq_eq_false_iff_ne.2 hs]; rfl
    have e : chkG id cu ap rv cl ex st tm un pa = 8 := by
      have : ¬ stateP ap rv cl ex st := fun h => hs h.1
      simp only [chkG, hi, hc, hr, hf, ht, hp, this, Bool.true_eq_false, if_false, not_true_eq_false, not_false_eq_true, if_true]
    simp only [argE_nil, argE_cons, ↓vmD, vmV, vmStd, Nat.reduceMul, ↓reduceIte, Nat.reduceAdd, Nat.reduceSub, Nat.reduceEqDiff, Nat.reduceLT, Nat.reduceLeDiff, reduceCtorEq, Int.reduceToNat, Int.reduceLT, Int.reduceLE, Int.reduceEq, Int.reduceNeg, Int.reduceBEq, Int.reduceBNe, String.reduceEq, forall_const, ↓vmH, same_nil, same_cons, List.mem_cons, tyS, slIndexByte_p, indexByte_p, indexRune_p, containsRune_p, classOf_p, isWordByte_p, letter_p, digit_p, wordAt_p, rword_p, isName_p, risName_p, recId_p, authId_p, rId13_p, rId27_p, moneyCur_p, authCur_p, rCur27_p, rCur01_p, isPart_p, funds_p, settled_p, rcheck_p, inTotal_p, rwithin1_p, monCheck_p, rmonCheck_p, exKind_p, exNames_p, exAmount_p, exLimits_p, exDate_p, within27_p, state27_p, hr, q1]
    exact ⟨by rw [e], by repeat' first | exact .refl _ | apply Grew.pushed⟩
theorem rauthCheck_v (id cu : ByteArray) (ap rv cl ex st tm un pa : Int) (h1 : id.size ≤ 100000) (h2 : cu.size ≤ 100000) (A_ : AH) : valA Try.prog 32 #[.agg #[.string id, .string cu, .int .i64 ap, .int .i64 rv, .int .i64 cl, .int .i64 ex, .int .i64 st, .int .i64 tm, .int .i64 un, .int .i64 pa]] A_ = some (.int .i64 (chkG id cu ap rv cl ex st tm un pa)) := pureA_h (by kernel_rfl) (by kernel_rfl) (fun h => rauthCheck_h id cu ap rv cl ex st tm un pa h1 h2 h)
end Go.Proofs.Ythahheeahdhepaa
