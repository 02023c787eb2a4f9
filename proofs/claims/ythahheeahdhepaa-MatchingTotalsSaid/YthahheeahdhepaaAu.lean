/-
Authorizations: what the functions of package auth and of its reference compute.
Conditions: none.
-/
import Derived.Test.YthahheeahdhepaaRec
namespace Go.Proofs.Ythahheeahdhepaa
open Go.Vm
set_option linter.unusedSimpArgs false
set_option linter.unusedVariables false
set_option maxHeartbeats 1000000
set_option maxRecDepth 20000

structure Au where
  id : ByteArray
  cu : ByteArray
  ap : Int
  rv : Int
  cl : Int
  ex : Int
  st : Int
  atT : Int
  un : Int
  pa : Int
def Au.cells (a : Au) : List Value := [.string a.id, .string a.cu, .int .i64 a.ap, .int .i64 a.rv, .int .i64 a.cl, .int .i64 a.ex, .int .i64 a.st, .int .i64 a.atT, .int .i64 a.un, .int .i64 a.pa]
def Au.agg (a : Au) : Value := .agg #[.string a.id, .string a.cu, .int .i64 a.ap, .int .i64 a.rv, .int .i64 a.cl, .int .i64 a.ex, .int .i64 a.st, .int .i64 a.atT, .int .i64 a.un, .int .i64 a.pa]
def Au.zero : Au := ⟨⟨#[]⟩, ⟨#[]⟩, 0, 0, 0, 0, 0, 0, 0, 0⟩
def partB (n : Int) : Bool := decide (0 ≤ n) && decide (n ≤ 999999999999)
def rngP (ap rv cl ex : Int) : Prop := (1 ≤ ap ∧ ap ≤ 999999999999) ∧ (0 ≤ rv ∧ rv ≤ 999999999999) ∧ (0 ≤ cl ∧ cl ≤ 999999999999) ∧ (0 ≤ ex ∧ ex ≤ 999999999999)
def stF (f ex cl : Int) : Int := if 0 < f then 1 else if 0 < ex then 4 else if 0 < cl then 2 else 3
def timeP (tm un : Int) : Prop := 0 ≤ tm ∧ tm ≤ 1099511627776 ∧ tm < un ∧ un ≤ 1099511627776
def partsP (cl pa : Int) : Prop := 0 ≤ pa ∧ pa ≤ 8 ∧ pa ≤ cl ∧ (pa = 0 ↔ cl = 0)
def stateP (ap rv cl ex st : Int) : Prop := st = stF (ap - rv - cl - ex) ex cl ∧ ¬ (st = 1 ∧ ex ≠ 0)
instance (ap rv cl ex : Int) : Decidable (rngP ap rv cl ex) := by unfold rngP; infer_instance
instance (tm un : Int) : Decidable (timeP tm un) := by unfold timeP; infer_instance
instance (cl pa : Int) : Decidable (partsP cl pa) := by unfold partsP; infer_instance
instance (ap rv cl ex st : Int) : Decidable (stateP ap rv cl ex st) := by unfold stateP; infer_instance
def chkG (id cu : ByteArray) (ap rv cl ex st tm un pa : Int) : Int :=
  if idF id = false then 5 else if curF cu = false then 11 else if ¬ rngP ap rv cl ex then 4 else if ap - rv - cl - ex < 0 then 26 else if ¬ timeP tm un then 14 else if ¬ partsP cl pa then 4 else if ¬ stateP ap rv cl ex st then 8 else 0
def chkA (a : Au) : Int := chkG a.id a.cu a.ap a.rv a.cl a.ex a.st a.atT a.un a.pa
theorem isPart_h (n : Int) (h : Heap) : CallsH Try.prog 38 #[.int .i64 n] h fun r h' => r = .returned (.bool (partB n)) ∧ h' = h := by
  refine callsH_of_den ⟨Try.prog, 38, Try.f38, 9, [0, 2], _⟩ (args := [_]) Try.func38 rfl Try.ntmps38 (by simp) ?_
  simp only [argE_nil, argE_cons, ↓vmD, vmV, vmStd, Nat.reduceMul, ↓reduceIte, Nat.reduceAdd, Nat.reduceSub, Nat.reduceEqDiff, Nat.reduceLT, Nat.reduceLeDiff, reduceCtorEq, Int.reduceToNat, Int.reduceLT, Int.reduceLE, Int.reduceEq, Int.reduceNeg, Int.reduceBEq, Int.reduceBNe, String.reduceEq, forall_const, tyS, slIndexByte_p, indexByte_p, indexRune_p, containsRune_p, classOf_p, isWordByte_p, letter_p, digit_p, wordAt_p, rword_p, isName_p, risName_p, recId_p, authId_p, rId13_p, rId27_p, moneyCur_p, authCur_p, rCur27_p, rCur01_p, partB]
theorem isPart_p (n : Int) (h : Heap) (Q : Ending → Heap → Prop) : CallsX Try.prog 38 #[.int .i64 n] h Q = Q (.returned (.bool (partB n))) (h) := CallsX.exact (by kernel_rfl) (isPart_h n h)
theorem isPart_q (n : Int) (h : Heap) (nt_ : Nat) (dst_ : Option Nat) (ρ_ : Env) (K_ : Env → Prop) : callQ Try.prog nt_ dst_ (.func (.func 38) #[] #[]) [.int .i64 n] ρ_ h K_ = putK nt_ dst_ (.bool (partB n)) ρ_ K_ := callQ_exact (by kernel_rfl) (by kernel_rfl) (isPart_h n h)
theorem isPart_v (n : Int) (A_ : AH) : valA Try.prog 38 #[.int .i64 n] A_ = some (.bool (partB n)) := pureA_e (by kernel_rfl) (by kernel_rfl) (fun h => isPart_h n h)
theorem fundsW {ap rv cl ex : Int} (hr : rngP ap rv cl ex) : IntKind.i64.wrap (IntKind.i64.wrap (IntKind.i64.wrap (ap - rv) - cl) - ex) = ap - rv - cl - ex := by
  obtain ⟨h1, h2, h3, h4⟩ := hr
  rw [w_i64 (n := ap - rv) (by omega) (by omega), w_i64 (n := ap - rv - cl) (by omega) (by omega), w_i64 (by omega) (by omega)]
theorem funds_h (id cu : ByteArray) (ap rv cl ex st tm un pa : Int) (hr : rngP ap rv cl ex) (h : Heap) : CallsH Try.prog 39 #[.agg #[.string id, .string cu, .int .i64 ap, .int .i64 rv, .int .i64 cl, .int .i64 ex, .int .i64 st, .int .i64 tm, .int .i64 un, .int .i64 pa]] h fun r h' => r = .returned (.int .i64 (ap - rv - cl - ex)) ∧ h' = h.push (.cells #[.string id, .string cu, .int .i64 ap, .int .i64 rv, .int .i64 cl, .int .i64 ex, .int .i64 st, .int .i64 tm, .int .i64 un, .int .i64 pa] 23) := by
  refine callsH_of_den ⟨Try.prog, 39, Try.f39, 14, [0, 1, 2], _⟩ (args := [_]) Try.func39 rfl Try.ntmps39 (by simp) ?_
  simp only [argE_nil, argE_cons, ↓vmD, vmV, vmStd, Nat.reduceMul, ↓reduceIte, Nat.reduceAdd, Nat.reduceSub, Nat.reduceEqDiff, Nat.reduceLT, Nat.reduceLeDiff, reduceCtorEq, Int.reduceToNat, Int.reduceLT, Int.reduceLE, Int.reduceEq, Int.reduceNeg, Int.reduceBEq, Int.reduceBNe, String.reduceEq, forall_const, tyS, slIndexByte_p, indexByte_p, indexRune_p, containsRune_p, classOf_p, isWordByte_p, letter_p, digit_p, wordAt_p, rword_p, isName_p, risName_p, recId_p, authId_p, rId13_p, rId27_p, moneyCur_p, authCur_p, rCur27_p, rCur01_p, isPart_p, fundsW hr]
theorem funds_p (id cu : ByteArray) (ap rv cl ex st tm un pa : Int) (hr : rngP ap rv cl ex) (h : Heap) (Q : Ending → Heap → Prop) : CallsX Try.prog 39 #[.agg #[.string id, .string cu, .int .i64 ap, .int .i64 rv, .int .i64 cl, .int .i64 ex, .int .i64 st, .int .i64 tm, .int .i64 un, .int .i64 pa]] h Q = Q (.returned (.int .i64 (ap - rv - cl - ex))) (h.push (.cells #[.string id, .string cu, .int .i64 ap, .int .i64 rv, .int .i64 cl, .int .i64 ex, .int .i64 st, .int .i64 tm, .int .i64 un, .int .i64 pa] 23)) := CallsX.exact (by kernel_rfl) (funds_h id cu ap rv cl ex st tm un pa hr h)
theorem settled_h (id cu : ByteArray) (ap rv cl ex st tm un pa : Int) (hr : rngP ap rv cl ex) (h : Heap) : CallsH Try.prog 40 #[.agg #[.string id, .string cu, .int .i64 ap, .int .i64 rv, .int .i64 cl, .int .i64 ex, .int .i64 st, .int .i64 tm, .int .i64 un, .int .i64 pa]] h fun r h' => r = .returned (.agg #[.string id, .string cu, .int .i64 ap, .int .i64 rv, .int .i64 cl, .int .i64 ex, .int .i64 (stF (ap - rv - cl - ex) ex cl), .int .i64 tm, .int .i64 un, .int .i64 pa]) ∧ h' = ((h.push (.cells #[.string id, .string cu, .int .i64 ap, .int .i64 rv, .int .i64 cl, .int .i64 ex, .int .i64 (stF (ap - rv - cl - ex) ex cl), .int .i64 tm, .int .i64 un, .int .i64 pa] 23)).push (.cells #[.string id, .string cu, .int .i64 ap, .int .i64 rv, .int .i64 cl, .int .i64 ex, .int .i64 (stF (ap - rv - cl - ex) ex cl), .int .i64 tm, .int .i64 un, .int .i64 pa] 23)).push (.cells #[.string id, .string cu, .int .i64 ap, .int .i64 rv, .int .i64 cl, .int .i64 ex, .int .i64 st, .int .i64 tm, .int .i64 un, .int .i64 pa] 23) := by
  refine callsH_of_den ⟨Try.prog, 40, Try.f40, 20, [0, 1, 2], _⟩ (args := [_]) Try.func40 rfl Try.ntmps40 (by simp) ?_
  by_cases h1 : 0 < ap - rv - cl - ex
  · have e : stF (ap - rv - cl - ex) ex cl = 1 := by simp only [stF, h1, if_true]
    rw [e]
    simp only [argE_nil, argE_cons, ↓vmD, vmV, vmStd, Nat.reduceMul, ↓reduceIte, Nat.reduceAdd, Nat.reduceSub, Nat.reduceEqDiff, Nat.reduceLT, Nat.reduceLeDiff, reduceCtorEq, Int.reduceToNat, Int.reduceLT, Int.reduceLE, Int.reduceEq, Int.reduceNeg, Int.reduceBEq, Int.reduceBNe, String.reduceEq, forall_const, tyS, slIndexByte_p, indexByte_p, indexRune_p, containsRune_p, classOf_p, isWordByte_p, letter_p, digit_p, wordAt_p, rword_p, isName_p, risName_p, recId_p, authId_p, rId13_p, rId27_p, moneyCur_p, authCur_p, rCur27_p, rCur01_p, isPart_p, funds_p, hr, h1]
  by_cases h2 : 0 < ex
  · have e : stF (ap - rv - cl - ex) ex cl = 4 := by simp only [stF, h1, h2, if_true, if_false]
    rw [e]
    simp only [argE_nil, argE_cons, ↓vmD, vmV, vmStd, Nat.reduceMul, ↓reduceIte, Nat.reduceAdd, Nat.reduceSub, Nat.reduceEqDiff, Nat.reduceLT, Nat.reduceLeDiff, reduceCtorEq, Int.reduceToNat, Int.reduceLT, Int.reduceLE, Int.reduceEq, Int.reduceNeg, Int.reduceBEq, Int.reduceBNe, String.reduceEq, forall_const, tyS, slIndexByte_p, indexByte_p, indexRune_p, containsRune_p, classOf_p, isWordByte_p, letter_p, digit_p, wordAt_p, rword_p, isName_p, risName_p, recId_p, authId_p, rId13_p, rId27_p, moneyCur_p, authCur_p, rCur27_p, rCur01_p, isPart_p, funds_p, hr, h1, h2]
  by_cases h3 : 0 < cl
  · have e : stF (ap - rv - cl - ex) ex cl = 2 := by simp only [stF, h1, h2, h3, if_true, if_false]
    rw [e]
    simp only [argE_nil, argE_cons, ↓vmD, vmV, vmStd, Nat.reduceMul, ↓reduceIte, Nat.reduceAdd, Nat.reduceSub, Nat.reduceEqDiff, Nat.reduceLT, Nat.reduceLeDiff, reduceCtorEq, Int.reduceToNat, Int.reduceLT, Int.reduceLE, Int.reduceEq, Int.reduceNeg, Int.reduceBEq, Int.reduceBNe, String.reduceEq, forall_const, tyS, slIndexByte_p, indexByte_p, indexRune_p, containsRune_p, classOf_p, isWordByte_p, letter_p, digit_p, wordAt_p, rword_p, isName_p, risName_p, recId_p, authId_p, rId13_p, rId27_p, moneyCur_p, authCur_p, rCur27_p, rCur01_p, isPart_p, funds_p, hr, h1, h2, h3]
  have e : stF (ap - rv - cl - ex) ex cl = 3 := by simp only [stF, h1, h2, h3, if_false]
  rw [e]
  simp only [argE_nil, argE_cons, ↓vmD, vmV, vmStd, Nat.reduceMul, ↓reduceIte, Nat.reduceAdd, Nat.reduceSub, Nat.reduceEqDiff, Nat.reduceLT, Nat.reduceLeDiff, reduceCtorEq, Int.reduceToNat, Int.reduceLT, Int.reduceLE, Int.reduceEq, Int.reduceNeg, Int.reduceBEq, Int.reduceBNe, String.reduceEq, forall_const, tyS, slIndexByte_p, indexByte_p, indexRune_p, containsRune_p, classOf_p, isWordByte_p, letter_p, digit_p, wordAt_p, rword_p, isName_p, risName_p, recId_p, authId_p, rId13_p, rId27_p, moneyCur_p, authCur_p, rCur27_p, rCur01_p, isPart_p, funds_p, hr, h1, h2, h3]
theorem settled_p (id cu : ByteArray) (ap rv cl ex st tm un pa : Int) (hr : rngP ap rv cl ex) (h : Heap) (Q : Ending → Heap → Prop) : CallsX Try.prog 40 #[.agg #[.string id, .string cu, .int .i64 ap, .int .i64 rv, .int .i64 cl, .int .i64 ex, .int .i64 st, .int .i64 tm, .int .i64 un, .int .i64 pa]] h Q = Q (.returned (.agg #[.string id, .string cu, .int .i64 ap, .int .i64 rv, .int .i64 cl, .int .i64 ex, .int .i64 (stF (ap - rv - cl - ex) ex cl), .int .i64 tm, .int .i64 un, .int .i64 pa])) (((h.push (.cells #[.string id, .string cu, .int .i64 ap, .int .i64 rv, .int .i64 cl, .int .i64 ex, .int .i64 (stF (ap - rv - cl - ex) ex cl), .int .i64 tm, .int .i64 un, .int .i64 pa] 23)).push (.cells #[.string id, .string cu, .int .i64 ap, .int .i64 rv, .int .i64 cl, .int .i64 ex, .int .i64 (stF (ap - rv - cl - ex) ex cl), .int .i64 tm, .int .i64 un, .int .i64 pa] 23)).push (.cells #[.string id, .string cu, .int .i64 ap, .int .i64 rv, .int .i64 cl, .int .i64 ex, .int .i64 st, .int .i64 tm, .int .i64 un, .int .i64 pa] 23)) := CallsX.exact (by kernel_rfl) (settled_h id cu ap rv cl ex st tm un pa hr h)
theorem authCheck_h (id cu : ByteArray) (ap rv cl ex st tm un pa : Int) (h1 : id.size ≤ 100000) (h2 : cu.size ≤ 100000) (h : Heap) : CallsH Try.prog 16 #[.agg #[.string id, .string cu, .int .i64 ap, .int .i64 rv, .int .i64 cl, .int .i64 ex, .int .i64 st, .int .i64 tm, .int .i64 un, .int .i64 pa]] h fun r h' => r = .returned (.int .i64 (chkG id cu ap rv cl ex st tm un pa)) ∧ Grew h h' := by
  refine callsH_of_den ⟨Try.prog, 16, Try.f16, 98, [0, 1, 2], _⟩ (args := [_]) Try.func16 rfl Try.ntmps16 (by simp) ?_
  cases hi : idF id with
  | false =>
    simp only [argE_nil, argE_cons, ↓vmD, vmV, vmStd, Nat.reduceMul, ↓reduceIte, Nat.reduceAdd, Nat.reduceSub, Nat.reduceEqDiff, Nat.reduceLT, Nat.reduceLeDiff, reduceCtorEq, Int.reduceToNat, Int.reduceLT, Int.reduceLE, Int.reduceEq, Int.reduceNeg, Int.reduceBEq, Int.reduceBNe, String.reduceEq, forall_const, tyS, slIndexByte_p, indexByte_p, indexRune_p, containsRune_p, classOf_p, isWordByte_p, letter_p, digit_p, wordAt_p, rword_p, isName_p, risName_p, recId_p, authId_p, rId13_p, rId27_p, moneyCur_p, authCur_p, rCur27_p, rCur01_p, isPart_p, funds_p, settled_p, h1, h2, hi]
    exact ⟨by simp [chkG, hi], .push _ _⟩
  | true =>
  cases hc : curF cu with
  | false =>
    simp only [argE_nil, argE_cons, ↓vmD, vmV, vmStd, Nat.reduceMul, ↓reduceIte, Nat.reduceAdd, Nat.reduceSub, Nat.reduceEqDiff, Nat.reduceLT, Nat.reduceLeDiff, reduceCtorEq, Int.reduceToNat, Int.reduceLT, Int.reduceLE, Int.reduceEq, Int.reduceNeg, Int.reduceBEq, Int.reduceBNe, String.reduceEq, forall_const, tyS, slIndexByte_p, indexByte_p, indexRune_p, containsRune_p, classOf_p, isWordByte_p, letter_p, digit_p, wordAt_p, rword_p, isName_p, risName_p, recId_p, authId_p, rId13_p, rId27_p, moneyCur_p, authCur_p, rCur27_p, rCur01_p, isPart_p, funds_p, settled_p, h1, h2, hi, hc]
    exact ⟨by simp [chkG, hi, hc], .push _ _⟩
  | true =>
  by_cases hr : rngP ap rv cl ex
  rotate_left
  · simp only [argE_nil, argE_cons, ↓vmD, vmV, vmStd, Nat.reduceMul, ↓reduceIte, Nat.reduceAdd, Nat.reduceSub, Nat.reduceEqDiff, Nat.reduceLT, Nat.reduceLeDiff, reduceCtorEq, Int.reduceToNat, Int.reduceLT, Int.reduceLE, Int.reduceEq, Int.reduceNeg, Int.reduceBEq, Int.reduceBNe, String.reduceEq, forall_const, tyS, slIndexByte_p, indexByte_p, indexRune_p, containsRune_p, classOf_p, isWordByte_p, letter_p, digit_p, wordAt_p, rword_p, isName_p, risName_p, recId_p, authId_p, rId13_p, rId27_p, moneyCur_p, authCur_p, rCur27_p, rCur01_p, isPart_p, funds_p, settled_p, h1, h2, hi, hc]
    have e4 : chkG id cu ap rv cl ex st tm un pa = 4 := by simp [chkG, hi, hc, hr]
    repeat' split
    all_goals first
      | exact ⟨by rw [e4], .push _ _⟩
      | (exfalso; apply hr; simp only [partB, Bool.and_eq_true, Bool.and_eq_false_iff, decide_eq_true_eq, decide_eq_false_iff_not, Bool.not_eq_false] at *; unfold rngP; omega)
  have r1 : (ap < 1) = False := eq_false (by unfold rngP at hr; omega)
  have r2 : (999999999999 < ap) = False := eq_false (by unfold rngP at hr; omega)
  have r3 : partB rv = true := by unfold rngP at hr; simp [partB]; omega
  have r4 : partB cl = true := by unfold rngP at hr; simp [partB]; omega
  have r5 : partB ex = true := by unfold rngP at hr; simp [partB]; omega
  by_cases hf : ap - rv - cl - ex < 0
  · have e : chkG id cu ap rv cl ex st tm un pa = 26 := by simp [chkG, hi, hc, hr, hf]
    simp only [argE_nil, argE_cons, ↓vmD, vmV, vmStd, Nat.reduceMul, ↓reduceIte, Nat.reduceAdd, Nat.reduceSub, Nat.reduceEqDiff, Nat.reduceLT, Nat.reduceLeDiff, reduceCtorEq, Int.reduceToNat, Int.reduceLT, Int.reduceLE, Int.reduceEq, Int.reduceNeg, Int.reduceBEq, Int.reduceBNe, String.reduceEq, forall_const, tyS, slIndexByte_p, indexByte_p, indexRune_p, containsRune_p, classOf_p, isWordByte_p, letter_p, digit_p, wordAt_p, rword_p, isName_p, risName_p, recId_p, authId_p, rId13_p, rId27_p, moneyCur_p, authCur_p, rCur27_p, rCur01_p, isPart_p, funds_p, settled_p, h1, h2, hi, hc, hr, r1, r2, r3, r4, r5, hf]
    exact ⟨by rw [e], (Grew.push _ _).pushed _⟩
  by_cases ht : timeP tm un
  rotate_left
  · have e : chkG id cu ap rv cl ex st tm un pa = 14 := by simp [chkG, hi, hc, hr, hf, ht]
    simp only [argE_nil, argE_cons, ↓vmD, vmV, vmStd, Nat.reduceMul, ↓reduceIte, Nat.reduceAdd, Nat.reduceSub, Nat.reduceEqDiff, Nat.reduceLT, Nat.reduceLeDiff, reduceCtorEq, Int.reduceToNat, Int.reduceLT, Int.reduceLE, Int.reduceEq, Int.reduceNeg, Int.reduceBEq, Int.reduceBNe, String.reduceEq, forall_const, tyS, slIndexByte_p, indexByte_p, indexRune_p, containsRune_p, classOf_p, isWordByte_p, letter_p, digit_p, wordAt_p, rword_p, isName_p, risName_p, recId_p, authId_p, rId13_p, rId27_p, moneyCur_p, authCur_p, rCur27_p, rCur01_p, isPart_p, funds_p, settled_p, h1, h2, hi, hc, hr, r1, r2, r3, r4, r5, hf]
    repeat' split
    all_goals first
      | (exfalso; apply ht; unfold timeP; omega)
      | exact ⟨by rw [e], (Grew.push _ _).pushed _⟩
  have t1 : (tm < 0) = False := eq_false (by unfold timeP at ht; omega)
  have t2 : (1099511627776 < tm) = False := eq_false (by unfold timeP at ht; omega)
  have t3 : (un ≤ tm) = False := eq_false (by unfold timeP at ht; omega)
  have t4 : (1099511627776 < un) = False := eq_false (by unfold timeP at ht; omega)
  by_cases hp : partsP cl pa
  rotate_left
  · have e : chkG id cu ap rv cl ex st tm un pa = 4 := by simp [chkG, hi, hc, hr, hf, ht, hp]
    simp only [argE_nil, argE_cons, ↓vmD, vmV, vmStd, Nat.reduceMul, ↓reduceIte, Nat.reduceAdd, Nat.reduceSub, Nat.reduceEqDiff, Nat.reduceLT, Nat.reduceLeDiff, reduceCtorEq, Int.reduceToNat, Int.reduceLT, Int.reduceLE, Int.reduceEq, Int.reduceNeg, Int.reduceBEq, Int.reduceBNe, String.reduceEq, forall_const, tyS, slIndexByte_p, indexByte_p, indexRune_p, containsRune_p, classOf_p, isWordByte_p, letter_p, digit_p, wordAt_p, rword_p, isName_p, risName_p, recId_p, authId_p, rId13_p, rId27_p, moneyCur_p, authCur_p, rCur27_p, rCur01_p, isPart_p, funds_p, settled_p, h1, h2, hi, hc, hr, r1, r2, r3, r4, r5, hf, t1, t2, t3, t4]
    repeat' split
    all_goals first
      | (exfalso; apply hp; unfold partsP; simp only [beq0, Decidable.not_not] at *; omega)
      | exact ⟨by rw [e], (Grew.push _ _).pushed _⟩
  have p1 : (pa < 0) = False := eq_false (by unfold partsP at hp; omega)
  have p2 : (8 < pa) = False := eq_false (by unfold partsP at hp; omega)
  have p3 : (cl < pa) = False := eq_false (by unfold partsP at hp; omega)
  have p4 : (pa == 0) = (cl == 0) := by unfold partsP at hp; rw [beq0]; omega
  simp only [argE_nil, argE_cons, ↓vmD, vmV, vmStd, Nat.reduceMul, ↓reduceIte, Nat.reduceAdd, Nat.reduceSub, Nat.reduceEqDiff, Nat.reduceLT, Nat.reduceLeDiff, reduceCtorEq, Int.reduceToNat, Int.reduceLT, Int.reduceLE, Int.reduceEq, Int.reduceNeg, Int.reduceBEq, Int.reduceBNe, String.reduceEq, forall_const, tyS, slIndexByte_p, indexByte_p, indexRune_p, containsRune_p, classOf_p, isWordByte_p, letter_p, digit_p, wordAt_p, rword_p, isName_p, risName_p, recId_p, authId_p, rId13_p, rId27_p, moneyCur_p, authCur_p, rCur27_p, rCur01_p, isPart_p, funds_p, settled_p, h1, h2, hi, hc, hr, r1, r2, r3, r4, r5, hf, t1, t2, t3, t4, p1, p2, p3, p4]
  refine Meant.held [Array.size h] [0, 1, 2, 3, 4, 5, 6, 7, 8, 9, 10, 11, 12, 13] (by kernel_rfl) (by kernel_rfl) rfl (by kernel_rfl) ?_
  have hst : stateP ap rv cl ex st ↔ (st = stF (ap - rv - cl - ex) ex cl ∧ ¬ (st = 1 ∧ ex ≠ 0)) := Iff.rfl
  have n1 : (Array.size h = Array.size h + 1) = False := eq_false (by omega)
  by_cases hs : st = stF (ap - rv - cl - ex) ex cl
  · have q1 : (st == stF (ap - rv - cl - ex) ex cl) = true := by rw [beq_iff_eq]; exact hs
    by_cases h1s : st = 1
    · have q2 : (st == 1) = true := by rw [beq_iff_eq]; exact h1s
      by_cases hx : ex = 0
      · have q3 : (ex != 0) = false := by simp [hx]
        have e : chkG id cu ap rv cl ex st tm un pa = 0 := by
          have : stateP ap rv cl ex st := ⟨hs, fun h => h.2 hx⟩
          simp only [chkG, hi, hc, hr, hf, ht, hp, this, Bool.true_eq_false, if_false, not_true_eq_false]
        simp only [argE_nil, argE_cons, ↓vmD, vmV, vmStd, Nat.reduceMul, ↓reduceIte, Nat.reduceAdd, Nat.reduceSub, Nat.reduceEqDiff, Nat.reduceLT, Nat.reduceLeDiff, reduceCtorEq, Int.reduceToNat, Int.reduceLT, Int.reduceLE, Int.reduceEq, Int.reduceNeg, Int.reduceBEq, Int.reduceBNe, String.reduceEq, forall_const, ↓vmH, same_nil, same_cons, List.mem_cons, tyS, slIndexByte_p, indexByte_p, indexRune_p, containsRune_p, classOf_p, isWordByte_p, letter_p, digit_p, wordAt_p, rword_p, isName_p, risName_p, recId_p, authId_p, rId13_p, rId27_p, moneyCur_p, authCur_p, rCur27_p, rCur01_p, isPart_p, funds_p, settled_p, hr, q1, q2, q3]
        exact ⟨by rw [e], by repeat' first | exact .refl _ | apply Grew.pushed⟩
      · have q3 : (ex != 0) = true := by simpa using hx
        have e : chkG id cu ap rv cl ex st tm un pa = 8 := by
          have : ¬ stateP ap rv cl ex st := fun h => h.2 ⟨h1s, hx⟩
          simp only [chkG, hi, hc, hr, hf, ht, hp, this, Bool.true_eq_false, if_false, not_true_eq_false, not_false_eq_true, if_true]
        simp only [argE_nil, argE_cons, ↓vmD, vmV, vmStd, Nat.reduceMul, ↓reduceIte, Nat.reduceAdd, Nat.reduceSub, Nat.reduceEqDiff, Nat.reduceLT, Nat.reduceLeDiff, reduceCtorEq, Int.reduceToNat, Int.reduceLT, Int.reduceLE, Int.reduceEq, Int.reduceNeg, Int.reduceBEq, Int.reduceBNe, String.reduceEq, forall_const, ↓vmH, same_nil, same_cons, List.mem_cons, tyS, slIndexByte_p, indexByte_p, indexRune_p, containsRune_p, classOf_p, isWordByte_p, letter_p, digit_p, wordAt_p, rword_p, isName_p, risName_p, recId_p, authId_p, rId13_p, rId27_p, moneyCur_p, authCur_p, rCur27_p, rCur01_p, isPart_p, funds_p, settled_p, hr, q1, q2, q3]
        exact ⟨by rw [e], by repeat' first | exact .refl _ | apply Grew.pushed⟩
    · have q2 : (st == 1) = false := by rw [beq_eq_false_iff_ne]; exact h1s
      have e : chkG id cu ap rv cl ex st tm un pa = 0 := by
        have : stateP ap rv cl ex st := ⟨hs, fun h => h1s h.1⟩
        simp only [chkG, hi, hc, hr, hf, ht, hp, this, Bool.true_eq_false, if_false, not_true_eq_false]
      simp only [argE_nil, argE_cons, ↓vmD, vmV, vmStd, Nat.reduceMul, ↓reduceIte, Nat.reduceAdd, Nat.reduceSub, Nat.reduceEqDiff, Nat.reduceLT, Nat.reduceLeDiff, reduceCtorEq, Int.reduceToNat, Int.reduceLT, Int.reduceLE, Int.reduceEq, Int.reduceNeg, Int.reduceBEq, Int.reduceBNe, String.reduceEq, forall_const, ↓vmH, same_nil, same_cons, List.mem_cons, tyS, slIndexByte_p, indexByte_p, indexRune_p, containsRune_p, classOf_p, isWordByte_p, letter_p, digit_p, wordAt_p, rword_p, isName_p, risName_p, recId_p, authId_p, rId13_p, rId27_p, moneyCur_p, authCur_p, rCur27_p, rCur01_p, isPart_p, funds_p, settled_p, hr, q1, q2]
      exact ⟨by rw [e], by repeat' first | exact .refl _ | apply Grew.pushed⟩
  · have q1 : (st == stF (ap - rv - cl - ex) ex cl) = false := by rw [beq_eq_false_iff_ne]; exact hs
    have e : chkG id cu ap rv cl ex st tm un pa = 8 := by
      have : ¬ stateP ap rv cl ex st := fun h => hs h.1
      simp only [chkG, hi, hc, hr, hf, ht, hp, this, Bool.true_eq_false, if_false, not_true_eq_false, not_false_eq_true, if_true]
    simp only [argE_nil, argE_cons, ↓vmD, vmV, vmStd, Nat.reduceMul, ↓reduceIte, Nat.reduceAdd, Nat.reduceSub, Nat.reduceEqDiff, Nat.reduceLT, Nat.reduceLeDiff, reduceCtorEq, Int.reduceToNat, Int.reduceLT, Int.reduceLE, Int.reduceEq, Int.reduceNeg, Int.reduceBEq, Int.reduceBNe, String.reduceEq, forall_const, ↓vmH, same_nil, same_cons, List.mem_cons, tyS, slIndexByte_p, indexByte_p, indexRune_p, containsRune_p, classOf_p, isWordByte_p, letter_p, digit_p, wordAt_p, rword_p, isName_p, risName_p, recId_p, authId_p, rId13_p, rId27_p, moneyCur_p, authCur_p, rCur27_p, rCur01_p, isPart_p, funds_p, settled_p, hr, q1]
    exact ⟨by rw [e], by repeat' first | exact .refl _ | apply Grew.pushed⟩
theorem authCheck_v (id cu : ByteArray) (ap rv cl ex st tm un pa : Int) (h1 : id.size ≤ 100000) (h2 : cu.size ≤ 100000) (A_ : AH) : valA Try.prog 16 #[.agg #[.string id, .string cu, .int .i64 ap, .int .i64 rv, .int .i64 cl, .int .i64 ex, .int .i64 st, .int .i64 tm, .int .i64 un, .int .i64 pa]] A_ = some (.int .i64 (chkG id cu ap rv cl ex st tm un pa)) := pureA_h (by kernel_rfl) (by kernel_rfl) (fun h => authCheck_h id cu ap rv cl ex st tm un pa h1 h2 h)
end Go.Proofs.Ythahheeahdhepaa
