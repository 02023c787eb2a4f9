/-
Adjustments: the walks of single movements.
Conditions: none.
-/
import Derived.Test.YtejcnpllodgmlaaDoorAdjM
namespace Go.Proofs.YtejcnpllodgmlaaDoor
open Go.Vm
set_option linter.unusedSimpArgs false
set_option linter.unusedVariables false
set_option maxHeartbeats 2000000
set_option maxRecDepth 20000
theorem holder_h (s : Int) (h : Heap) : CallsH Tryd.prog 9 #[.int .i64 s] h fun r h' => r = .returned (.int .i64 (holdF s)) ∧ h' = h := by
  refine callsH_of_den ⟨Tryd.prog, 9, Tryd.f9, 18, [0, 2, 3], _⟩ (args := [_]) Tryd.func9 rfl Tryd.ntmps9 (by simp) ?_
  simp only [argE_nil, argE_cons, ↓vmD, vmV, vmStd, Nat.reduceMul, ↓reduceIte, Nat.reduceAdd, Nat.reduceSub, Nat.reduceEqDiff, Nat.reduceLT, Nat.reduceLeDiff, reduceCtorEq, Int.reduceToNat, Int.reduceLT, Int.reduceLE, Int.reduceEq, Int.reduceNeg, Int.reduceBEq, Int.reduceBNe, String.reduceEq, forall_const, tyS, slIndexByte_p, indexByte_p, indexRune_p, containsRune_p, classOf_p, isWordByte_p, letter_p, digit_p, wordAt_p, rword_p, isName_p, risName_p, recId_p, rId13_p, moneyCur_p, rCur01_p, rcheck_p, inTotal_p, rwithin1_p, monCheck_p, rmonCheck_p, exKind_p, exNames_p, exAmount_p, exLimits_p, exDate_p, dNext_p, rNext_p]
  simp only [holdF]
  grind (splits := 30)
theorem holder_p (s : Int) (h : Heap) (Q : Ending → Heap → Prop) : CallsX Tryd.prog 9 #[.int .i64 s] h Q = Q (.returned (.int .i64 (holdF s))) (h) := CallsX.exact (by kernel_rfl) (holder_h s h)
theorem holder_q (s : Int) (h : Heap) (nt_ : Nat) (dst_ : Option Nat) (ρ_ : Env) (K_ : Env → Prop) : callQ Tryd.prog nt_ dst_ (.func (.func 9) #[] #[]) [.int .i64 s] ρ_ h K_ = putK nt_ dst_ (.int .i64 (holdF s)) ρ_ K_ := callQ_exact (by kernel_rfl) (by kernel_rfl) (holder_h s h)
theorem holder_v (s : Int) (A_ : AH) : valA Tryd.prog 9 #[.int .i64 s] A_ = some (.int .i64 (holdF s)) := pureA_e (by kernel_rfl) (by kernel_rfl) (fun h => holder_h s h)
theorem rholder_h (s : Int) (h : Heap) : CallsH Tryd.prog 14 #[.int .i64 s] h fun r h' => r = .returned (.int .i64 (holdF s)) ∧ h' = h := by
  refine callsH_of_den ⟨Tryd.prog, 14, Tryd.f14, 15, [0, 2], _⟩ (args := [_]) Tryd.func14 rfl Tryd.ntmps14 (by simp) ?_
  simp only [argE_nil, argE_cons, ↓vmD, vmV, vmStd, Nat.reduceMul, ↓reduceIte, Nat.reduceAdd, Nat.reduceSub, Nat.reduceEqDiff, Nat.reduceLT, Nat.reduceLeDiff, reduceCtorEq, Int.reduceToNat, Int.reduceLT, Int.reduceLE, Int.reduceEq, Int.reduceNeg, Int.reduceBEq, Int.reduceBNe, String.reduceEq, forall_const, tyS, slIndexByte_p, indexByte_p, indexRune_p, containsRune_p, classOf_p, isWordByte_p, letter_p, digit_p, wordAt_p, rword_p, isName_p, risName_p, recId_p, rId13_p, moneyCur_p, rCur01_p, rcheck_p, inTotal_p, rwithin1_p, monCheck_p, rmonCheck_p, exKind_p, exNames_p, exAmount_p, exLimits_p, exDate_p, dNext_p, rNext_p, holder_p]
  simp only [holdF]
  grind (splits := 30)
theorem rholder_p (s : Int) (h : Heap) (Q : Ending → Heap → Prop) : CallsX Tryd.prog 14 #[.int .i64 s] h Q = Q (.returned (.int .i64 (holdF s))) (h) := CallsX.exact (by kernel_rfl) (rholder_h s h)
theorem rholder_q (s : Int) (h : Heap) (nt_ : Nat) (dst_ : Option Nat) (ρ_ : Env) (K_ : Env → Prop) : callQ Tryd.prog nt_ dst_ (.func (.func 14) #[] #[]) [.int .i64 s] ρ_ h K_ = putK nt_ dst_ (.int .i64 (holdF s)) ρ_ K_ := callQ_exact (by kernel_rfl) (by kernel_rfl) (rholder_h s h)
theorem rholder_v (s : Int) (A_ : AH) : valA Tryd.prog 14 #[.int .i64 s] A_ = some (.int .i64 (holdF s)) := pureA_e (by kernel_rfl) (by kernel_rfl) (fun h => rholder_h s h)
theorem i_beq0 (n m : Int) : (n == m) = decide (n = m) := by
  by_cases h : n = m
  · subst h; simp
  · simp [h]
theorem foll_h (s t : Int) : CallA Tryd.prog 20 #[.int .i64 s, .int .i64 t] [] (fun u_ _ => u_ = .bool (follF s t)) := by
  refine callA_of_denA ⟨Tryd.prog, 20, Tryd.f20, 29, [0, 1, 4, 5, 6, 7], [], [], _⟩ (args := [_, _]) Tryd.func20 rfl (by kernel_rfl) Tryd.ntmps20 (by simp) (by kernel_rfl) ?_
  intro ν fr; have nuE := fr.nu
  by_cases h0 : s = 0
  · have hv : follF s t = decide (t = 1) := by unfold follF; rw [if_pos h0]
    subst h0
    simp (maxDischargeDepth := 16) only [argE_nil, argE_cons, ↓vmD, vmV, vmStd, Nat.reduceMul, ↓reduceIte, Nat.reduceAdd, Nat.reduceSub, Nat.reduceEqDiff, Nat.reduceLT, Nat.reduceLeDiff, reduceCtorEq, Int.reduceToNat, Int.reduceLT, Int.reduceLE, Int.reduceEq, Int.reduceNeg, Int.reduceBEq, Int.reduceBNe, String.reduceEq, forall_const, ↓vmDA, vmVA, ↓vmQA, vmR, vmRA, ↓vmSA, vmSV, tyS, nuE, slIndexByte_v, indexByte_v, indexRune_v, containsRune_v, classOf_v, isWordByte_v, letter_v, digit_v, wordAt_v, rword_v, isName_v, risName_v, recId_v, rId13_v, moneyCur_v, rCur01_v, inTotal_v, rwithin1_v, exCard_v, recCheck_v, rrecCheck_v, dNext_v, rNext_v, holder_v, rholder_v, i_beq0, hv, decide_true]
  have z : decide (s = 0) = false := by simp [h0]
  have hv : follF s t = anyF s t 7 1 := by unfold follF; rw [if_neg h0]
  simp (maxDischargeDepth := 16) only [argE_nil, argE_cons, ↓vmD, vmV, vmStd, Nat.reduceMul, ↓reduceIte, Nat.reduceAdd, Nat.reduceSub, Nat.reduceEqDiff, Nat.reduceLT, Nat.reduceLeDiff, reduceCtorEq, Int.reduceToNat, Int.reduceLT, Int.reduceLE, Int.reduceEq, Int.reduceNeg, Int.reduceBEq, Int.reduceBNe, String.reduceEq, forall_const, ↓vmDA, vmVA, ↓vmQA, vmR, vmRA, ↓vmSA, vmSV, tyS, nuE, slIndexByte_v, indexByte_v, indexRune_v, containsRune_v, classOf_v, isWordByte_v, letter_v, digit_v, wordAt_v, rword_v, isName_v, risName_v, recId_v, rId13_v, moneyCur_v, rCur01_v, inTotal_v, rwithin1_v, exCard_v, recCheck_v, rrecCheck_v, dNext_v, rNext_v, holder_v, rholder_v, i_beq0, z]
  obtain ⟨e, k, he, hk, hh⟩ : ∃ e k : Nat, e = 1 ∧ e + k = 8 ∧ follF s t = anyF s t k e := ⟨1, 7, rfl, rfl, hv⟩
  rw [show (5, some (Value.int .i64 1)) = (5, some (Value.int .i64 (e : Int))) by rw [he]; rfl]
  clear he hv nuE fr
  induction k generalizing e with
  | zero =>
    have lt : ((e : Int) ≤ 7) = False := eq_false (by omega)
    have hv : follF s t = false := by rw [hh]; rfl
    refine LoopA.intro (by kernel_rfl) ?_
    intro ν fr; have nuE := fr.nu
    simp (maxDischargeDepth := 16) only [argE_nil, argE_cons, ↓vmD, vmV, vmStd, Nat.reduceMul, ↓reduceIte, Nat.reduceAdd, Nat.reduceSub, Nat.reduceEqDiff, Nat.reduceLT, Nat.reduceLeDiff, reduceCtorEq, Int.reduceToNat, Int.reduceLT, Int.reduceLE, Int.reduceEq, Int.reduceNeg, Int.reduceBEq, Int.reduceBNe, String.reduceEq, forall_const, ↓vmDA, vmVA, ↓vmQA, vmR, vmRA, ↓vmSA, vmSV, tyS, nuE, slIndexByte_v, indexByte_v, indexRune_v, containsRune_v, classOf_v, isWordByte_v, letter_v, digit_v, wordAt_v, rword_v, isName_v, risName_v, recId_v, rId13_v, moneyCur_v, rCur01_v, inTotal_v, rwithin1_v, exCard_v, recCheck_v, rrecCheck_v, dNext_v, rNext_v, holder_v, rholder_v, lt, hv]
  | succ k ih =>
    have lt : ((e : Int) ≤ 7) = True := eq_true (by omega)
    have we : IntKind.i64.wrap ((e : Int) + 1) = ((e + 1 : Nat) : Int) := by rw [w_i64 (by omega) (by omega)]; omega
    refine LoopA.intro (by kernel_rfl) ?_
    intro ν fr; have nuE := fr.nu
    by_cases h1 : (nextF s (e : Int)).2 = 0
    · have d1 : decide ((nextF s (e : Int)).2 = 0) = true := by simpa using h1
      by_cases h2 : (nextF s (e : Int)).1 = t
      · have d2 : decide ((nextF s (e : Int)).1 = t) = true := by simpa using h2
        have hv : follF s t = true := by rw [hh]; simp [anyF, stepF, h1, h2]
        simp (maxDischargeDepth := 16) only [argE_nil, argE_cons, ↓vmD, vmV, vmStd, Nat.reduceMul, ↓reduceIte, Nat.reduceAdd, Nat.reduceSub, Nat.reduceEqDiff, Nat.reduceLT, Nat.reduceLeDiff, reduceCtorEq, Int.reduceToNat, Int.reduceLT, Int.reduceLE, Int.reduceEq, Int.reduceNeg, Int.reduceBEq, Int.reduceBNe, String.reduceEq, forall_const, ↓vmDA, vmVA, ↓vmQA, vmR, vmRA, ↓vmSA, vmSV, tyS, nuE, slIndexByte_v, indexByte_v, indexRune_v, containsRune_v, classOf_v, isWordByte_v, letter_v, digit_v, wordAt_v, rword_v, isName_v, risName_v, recId_v, rId13_v, moneyCur_v, rCur01_v, inTotal_v, rwithin1_v, exCard_v, recCheck_v, rrecCheck_v, dNext_v, rNext_v, holder_v, rholder_v, lt, i_beq0, d1, d2, hv]
      · have d2 : decide ((nextF s (e : Int)).1 = t) = false := by simpa using h2
        simp (maxDischargeDepth := 16) only [argE_nil, argE_cons, ↓vmD, vmV, vmStd, Nat.reduceMul, ↓reduceIte, Nat.reduceAdd, Nat.reduceSub, Nat.reduceEqDiff, Nat.reduceLT, Nat.reduceLeDiff, reduceCtorEq, Int.reduceToNat, Int.reduceLT, Int.reduceLE, Int.reduceEq, Int.reduceNeg, Int.reduceBEq, Int.reduceBNe, String.reduceEq, forall_const, ↓vmDA, vmVA, ↓vmQA, vmR, vmRA, ↓vmSA, vmSV, tyS, nuE, slIndexByte_v, indexByte_v, indexRune_v, containsRune_v, classOf_v, isWordByte_v, letter_v, digit_v, wordAt_v, rword_v, isName_v, risName_v, recId_v, rId13_v, moneyCur_v, rCur01_v, inTotal_v, rwithin1_v, exCard_v, recCheck_v, rrecCheck_v, dNext_v, rNext_v, holder_v, rholder_v, lt, i_beq0, d1, d2, we]
        exact LoopA.weak (ih (e + 1) (by omega) (by rw [hh]; simp [anyF, stepF, h2])) (by simp only [subE, get_cons, Nat.reduceEqDiff, ↓reduceIte, reduceCtorEq, Nat.reduceAdd, and_self, and_true]) (SubA.refl _)
    · have d1 : decide ((nextF s (e : Int)).2 = 0) = false := by simpa using h1
      simp (maxDischargeDepth := 16) only [argE_nil, argE_cons, ↓vmD, vmV, vmStd, Nat.reduceMul, ↓reduceIte, Nat.reduceAdd, Nat.reduceSub, Nat.reduceEqDiff, Nat.reduceLT, Nat.reduceLeDiff, reduceCtorEq, Int.reduceToNat, Int.reduceLT, Int.reduceLE, Int.reduceEq, Int.reduceNeg, Int.reduceBEq, Int.reduceBNe, String.reduceEq, forall_const, ↓vmDA, vmVA, ↓vmQA, vmR, vmRA, ↓vmSA, vmSV, tyS, nuE, slIndexByte_v, indexByte_v, indexRune_v, containsRune_v, classOf_v, isWordByte_v, letter_v, digit_v, wordAt_v, rword_v, isName_v, risName_v, recId_v, rId13_v, moneyCur_v, rCur01_v, inTotal_v, rwithin1_v, exCard_v, recCheck_v, rrecCheck_v, dNext_v, rNext_v, holder_v, rholder_v, lt, i_beq0, d1, we]
      exact LoopA.weak (ih (e + 1) (by omega) (by rw [hh]; simp [anyF, stepF, h1])) (by simp only [subE, get_cons, Nat.reduceEqDiff, ↓reduceIte, reduceCtorEq, Nat.reduceAdd, and_self, and_true]) (SubA.refl _)
theorem foll_v (s t : Int) (A_ : AH) : valA Tryd.prog 20 #[.int .i64 s, .int .i64 t] A_ = some (.bool (follF s t)) := valA_eq (pureA_of (by kernel_rfl) (foll_h s t))
theorem rfoll_h (s t : Int) : CallA Tryd.prog 23 #[.int .i64 s, .int .i64 t] [] (fun u_ _ => u_ = .bool (follF s t)) := by
  refine callA_of_denA ⟨Tryd.prog, 23, Tryd.f23, 29, [0, 1, 4, 5, 6, 7], [], [], _⟩ (args := [_, _]) Tryd.func23 rfl (by kernel_rfl) Tryd.ntmps23 (by simp) (by kernel_rfl) ?_
  intro ν fr; have nuE := fr.nu
  by_cases h0 : s = 0
  · have hv : follF s t = decide (t = 1) := by unfold follF; rw [if_pos h0]
    subst h0
    simp (maxDischargeDepth := 16) only [argE_nil, argE_cons, ↓vmD, vmV, vmStd, Nat.reduceMul, ↓reduceIte, Nat.reduceAdd, Nat.reduceSub, Nat.reduceEqDiff, Nat.reduceLT, Nat.reduceLeDiff, reduceCtorEq, Int.reduceToNat, Int.reduceLT, Int.reduceLE, Int.reduceEq, Int.reduceNeg, Int.reduceBEq, Int.reduceBNe, String.reduceEq, forall_const, ↓vmDA, vmVA, ↓vmQA, vmR, vmRA, ↓vmSA, vmSV, tyS, nuE, slIndexByte_v, indexByte_v, indexRune_v, containsRune_v, classOf_v, isWordByte_v, letter_v, digit_v, wordAt_v, rword_v, isName_v, risName_v, recId_v, rId13_v, moneyCur_v, rCur01_v, inTotal_v, rwithin1_v, exCard_v, recCheck_v, rrecCheck_v, dNext_v, rNext_v, holder_v, rholder_v, foll_v, i_beq0, hv, decide_true]
  have z : decide (s = 0) = false := by simp [h0]
  have hv : follF s t = anyF s t 7 1 := by unfold follF; rw [if_neg h0]
  simp (maxDischargeDepth := 16) only [argE_nil, argE_cons, ↓vmD, vmV, vmStd, Nat.reduceMul, ↓reduceIte, Nat.reduceAdd, Nat.reduceSub, Nat.reduceEqDiff, Nat.reduceLT, Nat.reduceLeDiff, reduceCtorEq, Int.reduceToNat, Int.reduceLT, Int.reduceLE, Int.reduceEq, Int.reduceNeg, Int.reduceBEq, Int.reduceBNe, String.reduceEq, forall_const, ↓vmDA, vmVA, ↓vmQA, vmR, vmRA, ↓vmSA, vmSV, tyS, nuE, slIndexByte_v, indexByte_v, indexRune_v, containsRune_v, classOf_v, isWordByte_v, letter_v, digit_v, wordAt_v, rword_v, isName_v, risName_v, recId_v, rId13_v, moneyCur_v, rCur01_v, inTotal_v, rwithin1_v, exCard_v, recCheck_v, rrecCheck_v, dNext_v, rNext_v, holder_v, rholder_v, foll_v, i_beq0, z]
  obtain ⟨e, k, he, hk, hh⟩ : ∃ e k : Nat, e = 1 ∧ e + k = 8 ∧ follF s t = anyF s t k e := ⟨1, 7, rfl, rfl, hv⟩
  rw [show (5, some (Value.int .i64 1)) = (5, some (Value.int .i64 (e : Int))) by rw [he]; rfl]
  clear he hv nuE fr
  induction k generalizing e with
  | zero =>
    have lt : ((e : Int) ≤ 7) = False := eq_false (by omega)
    have hv : follF s t = false := by rw [hh]; rfl
    refine LoopA.intro (by kernel_rfl) ?_
    intro ν fr; have nuE := fr.nu
    simp (maxDischargeDepth := 16) only [argE_nil, argE_cons, ↓vmD, vmV, vmStd, Nat.reduceMul, ↓reduceIte, Nat.reduceAdd, Nat.reduceSub, Nat.reduceEqDiff, Nat.reduceLT, Nat.reduceLeDiff, reduceCtorEq, Int.reduceToNat, Int.reduceLT, Int.reduceLE, Int.reduceEq, Int.reduceNeg, Int.reduceBEq, Int.reduceBNe, String.reduceEq, forall_const, ↓vmDA, vmVA, ↓vmQA, vmR, vmRA, ↓vmSA, vmSV, tyS, nuE, slIndexByte_v, indexByte_v, indexRune_v, containsRune_v, classOf_v, isWordByte_v, letter_v, digit_v, wordAt_v, rword_v, isName_v, risName_v, recId_v, rId13_v, moneyCur_v, rCur01_v, inTotal_v, rwithin1_v, exCard_v, recCheck_v, rrecCheck_v, dNext_v, rNext_v, holder_v, rholder_v, foll_v, lt, hv]
  | succ k ih =>
    have lt : ((e : Int) ≤ 7) = True := eq_true (by omega)
    have we : IntKind.i64.wrap ((e : Int) + 1) = ((e + 1 : Nat) : Int) := by rw [w_i64 (by omega) (by omega)]; omega
    refine LoopA.intro (by kernel_rfl) ?_
    intro ν fr; have nuE := fr.nu
    by_cases h1 : (nextF s (e : Int)).2 = 0
    · have d1 : decide ((nextF s (e : Int)).2 = 0) = true := by simpa using h1
      by_cases h2 : (nextF s (e : Int)).1 = t
      · have d2 : decide ((nextF s (e : Int)).1 = t) = true := by simpa using h2
        have hv : follF s t = true := by rw [hh]; simp [anyF, stepF, h1, h2]
        simp (maxDischargeDepth := 16) only [argE_nil, argE_cons, ↓vmD, vmV, vmStd, Nat.reduceMul, ↓reduceIte, Nat.reduceAdd, Nat.reduceSub, Nat.reduceEqDiff, Nat.reduceLT, Nat.reduceLeDiff, reduceCtorEq, Int.reduceToNat, Int.reduceLT, Int.reduceLE, Int.reduceEq, Int.reduceNeg, Int.reduceBEq, Int.reduceBNe, String.reduceEq, forall_const, ↓vmDA, vmVA, ↓vmQA, vmR, vmRA, ↓vmSA, vmSV, tyS, nuE, slIndexByte_v, indexByte_v, indexRune_v, containsRune_v, classOf_v, isWordByte_v, letter_v, digit_v, wordAt_v, rword_v, isName_v, risName_v, recId_v, rId13_v, moneyCur_v, rCur01_v, inTotal_v, rwithin1_v, exCard_v, recCheck_v, rrecCheck_v, dNext_v, rNext_v, holder_v, rholder_v, foll_v, lt, i_beq0, d1, d2, hv]
      · have d2 : decide ((nextF s (e : Int)).1 = t) = false := by simpa using h2
        simp (maxDischargeDepth := 16) only [argE_nil, argE_cons, ↓vmD, vmV, vmStd, Nat.reduceMul, ↓reduceIte, Nat.reduceAdd, Nat.reduceSub, Nat.reduceEqDiff, Nat.reduceLT, Nat.reduceLeDiff, reduceCtorEq, Int.reduceToNat, Int.reduceLT, Int.reduceLE, Int.reduceEq, Int.reduceNeg, Int.reduceBEq, Int.reduceBNe, String.reduceEq, forall_const, ↓vmDA, vmVA, ↓vmQA, vmR, vmRA, ↓vmSA, vmSV, tyS, nuE, slIndexByte_v, indexByte_v, indexRune_v, containsRune_v, classOf_v, isWordByte_v, letter_v, digit_v, wordAt_v, rword_v, isName_v, risName_v, recId_v, rId13_v, moneyCur_v, rCur01_v, inTotal_v, rwithin1_v, exCard_v, recCheck_v, rrecCheck_v, dNext_v, rNext_v, holder_v, rholder_v, foll_v, lt, i_beq0, d1, d2, we]
        exact LoopA.weak (ih (e + 1) (by omega) (by rw [hh]; simp [anyF, stepF, h2])) (by simp only [subE, get_cons, Nat.reduceEqDiff, ↓reduceIte, reduceCtorEq, Nat.reduceAdd, and_self, and_true]) (SubA.refl _)
    · have d1 : decide ((nextF s (e : Int)).2 = 0) = false := by simpa using h1
      simp (maxDischargeDepth := 16) only [argE_nil, argE_cons, ↓vmD, vmV, vmStd, Nat.reduceMul, ↓reduceIte, Nat.reduceAdd, Nat.reduceSub, Nat.reduceEqDiff, Nat.reduceLT, Nat.reduceLeDiff, reduceCtorEq, Int.reduceToNat, Int.reduceLT, Int.reduceLE, Int.reduceEq, Int.reduceNeg, Int.reduceBEq, Int.reduceBNe, String.reduceEq, forall_const, ↓vmDA, vmVA, ↓vmQA, vmR, vmRA, ↓vmSA, vmSV, tyS, nuE, slIndexByte_v, indexByte_v, indexRune_v, containsRune_v, classOf_v, isWordByte_v, letter_v, digit_v, wordAt_v, rword_v, isName_v, risName_v, recId_v, rId13_v, moneyCur_v, rCur01_v, inTotal_v, rwithin1_v, exCard_v, recCheck_v, rrecCheck_v, dNext_v, rNext_v, holder_v, rholder_v, foll_v, lt, i_beq0, d1, we]
      exact LoopA.weak (ih (e + 1) (by omega) (by rw [hh]; simp [anyF, stepF, h1])) (by simp only [subE, get_cons, Nat.reduceEqDiff, ↓reduceIte, reduceCtorEq, Nat.reduceAdd, and_self, and_true]) (SubA.refl _)
theorem rfoll_v (s t : Int) (A_ : AH) : valA Tryd.prog 23 #[.int .i64 s, .int .i64 t] A_ = some (.bool (follF s t)) := valA_eq (pureA_of (by kernel_rfl) (rfoll_h s t))
theorem dig_sl : ∀ (d : Nat), d < 10 → (ByteArray.mk #[48, 49, 50, 51, 52, 53, 54, 55, 56, 57]).extract d (d + 1) = bs [UInt8.ofNat (48 + d)] := by decide
theorem rDec_h (n : Nat) (hn : n ≤ 9223372036854775807) : CallA Tryd.prog 25 #[.int .i64 (n : Int)] [] (fun u_ _ => u_ = .string (decB n)) := by
  refine callA_of_denA ⟨Tryd.prog, 25, Tryd.f25, 28, [0, 2, 3, 4, 5], [], [], _⟩ (args := [_]) Tryd.func25 rfl (by kernel_rfl) Tryd.ntmps25 (by simp) (by kernel_rfl) ?_
  intro ν fr; have nuE := fr.nu
  have q : ((n : Int) < 0) = False := eq_false (by omega)
  simp (maxDischargeDepth := 16) only [argE_nil, argE_cons, ↓vmD, vmV, vmStd, Nat.reduceMul, ↓reduceIte, Nat.reduceAdd, Nat.reduceSub, Nat.reduceEqDiff, Nat.reduceLT, Nat.reduceLeDiff, reduceCtorEq, Int.reduceToNat, Int.reduceLT, Int.reduceLE, Int.reduceEq, Int.reduceNeg, Int.reduceBEq, Int.reduceBNe, String.reduceEq, forall_const, ↓vmDA, vmVA, ↓vmQA, vmR, vmRA, ↓vmSA, vmSV, tyS, nuE, slIndexByte_v, indexByte_v, indexRune_v, containsRune_v, classOf_v, isWordByte_v, letter_v, digit_v, wordAt_v, rword_v, isName_v, risName_v, recId_v, rId13_v, moneyCur_v, rCur01_v, inTotal_v, rwithin1_v, exCard_v, recCheck_v, rrecCheck_v, dNext_v, rNext_v, holder_v, rholder_v, foll_v, rfoll_v, q]
  have hlen : (Lib.decDigits n).length ≤ 19 := dec_len 19 n (by omega) (by omega)
  obtain ⟨m, acc, hm, ha, hd⟩ : ∃ (m : Nat) (acc : List UInt8), m = n ∧ acc = [] ∧ Lib.decDigits n = Lib.decDigits m ++ acc := ⟨n, [], rfl, rfl, by simp⟩
  have hmn : m ≤ n := by omega
  rw [show (4, some (Value.string ⟨#[]⟩)) = (4, some (Value.string (bs acc))) by rw [ha]; rfl]
  rw [show (0, some (Value.int .i64 (n : Int))) = (0, some (Value.int .i64 (m : Int))) by rw [hm]]
  clear ha hm nuE fr
  induction m using Nat.strongRecOn generalizing acc with
  | ind m ih =>
    have hal : acc.length ≤ 19 := by have := congrArg List.length hd; rw [List.length_append] at this; omega
    have r1 : (m : Int).tmod 10 = ((m % 10 : Nat) : Int) := by rw [Int.tmod_eq_emod_of_nonneg (by omega)]; omega
    have r0 : (((m % 10 : Nat) : Int) < 0) = False := eq_false (by omega)
    have r2 : IntKind.i64.wrap ((m : Int).tdiv 10) = ((m / 10 : Nat) : Int) := by rw [Int.tdiv_eq_ediv_of_nonneg (by omega), w_i64 (by omega) (by omega)]; omega
    have r3 : IntKind.i64.wrap (((m % 10 : Nat) : Int) + 1) = ((m % 10 + 1 : Nat) : Int) := by rw [w_i64 (by omega) (by omega)]; omega
    have r4 : (((m % 10 : Nat) : Int) ≤ ((m % 10 + 1 : Nat) : Int)) = True := by simp; omega
    have r5 : (((m % 10 + 1 : Nat) : Int) ≤ ((ByteArray.mk #[48, 49, 50, 51, 52, 53, 54, 55, 56, 57]).size : Int)) = True := by simp [ByteArray.size]; omega
    have ds := dig_sl (m % 10) (by omega)
    have s1 : 1 + acc.length ≤ 9223372036854775807 := by omega
    refine LoopA.intro (by kernel_rfl) ?_
    intro ν fr; have nuE := fr.nu
    by_cases h10 : m / 10 = 0
    · have z : (((m / 10 : Nat) : Int) == 0) = true := by rw [h10]; rfl
      have hv : decB n = bs (UInt8.ofNat (48 + m % 10) :: acc) := by
        unfold decB
        rw [hd, Lib.decDigits, dif_pos (by omega), Nat.mod_eq_of_lt (by omega)]
        rfl
      simp (maxDischargeDepth := 16) only [argE_nil, argE_cons, ↓vmD, vmV, vmStd, Nat.reduceMul, ↓reduceIte, Nat.reduceAdd, Nat.reduceSub, Nat.reduceEqDiff, Nat.reduceLT, Nat.reduceLeDiff, reduceCtorEq, Int.reduceToNat, Int.reduceLT, Int.reduceLE, Int.reduceEq, Int.reduceNeg, Int.reduceBEq, Int.reduceBNe, String.reduceEq, forall_const, ↓vmDA, vmVA, ↓vmQA, vmR, vmRA, ↓vmSA, vmSV, tyS, nuE, slIndexByte_v, indexByte_v, indexRune_v, containsRune_v, classOf_v, isWordByte_v, letter_v, digit_v, wordAt_v, rword_v, isName_v, risName_v, recId_v, rId13_v, moneyCur_v, rCur01_v, inTotal_v, rwithin1_v, exCard_v, recCheck_v, rrecCheck_v, dNext_v, rNext_v, holder_v, rholder_v, foll_v, rfoll_v, r1, r0, r2, r3, r4, r5, ds, bs_app, bs_size, s1, z, hv, List.singleton_append]
    · have z : (((m / 10 : Nat) : Int) == 0) = false := by simp; omega
      simp (maxDischargeDepth := 16) only [argE_nil, argE_cons, ↓vmD, vmV, vmStd, Nat.reduceMul, ↓reduceIte, Nat.reduceAdd, Nat.reduceSub, Nat.reduceEqDiff, Nat.reduceLT, Nat.reduceLeDiff, reduceCtorEq, Int.reduceToNat, Int.reduceLT, Int.reduceLE, Int.reduceEq, Int.reduceNeg, Int.reduceBEq, Int.reduceBNe, String.reduceEq, forall_const, ↓vmDA, vmVA, ↓vmQA, vmR, vmRA, ↓vmSA, vmSV, tyS, nuE, slIndexByte_v, indexByte_v, indexRune_v, containsRune_v, classOf_v, isWordByte_v, letter_v, digit_v, wordAt_v, rword_v, isName_v, risName_v, recId_v, rId13_v, moneyCur_v, rCur01_v, inTotal_v, rwithin1_v, exCard_v, recCheck_v, rrecCheck_v, dNext_v, rNext_v, holder_v, rholder_v, foll_v, rfoll_v, r1, r0, r2, r3, r4, r5, ds, bs_app, bs_size, s1, z]
      exact LoopA.weak (ih (m / 10) (by omega) (UInt8.ofNat (48 + m % 10) :: acc) (by rw [hd, Lib.decDigits, dif_neg (by omega)]; simp) (by omega)) (by simp only [subE, get_cons, Nat.reduceEqDiff, ↓reduceIte, reduceCtorEq, Nat.reduceAdd, and_self, and_true]) (SubA.refl _)
theorem rDec_v (n : Nat) (hn : n ≤ 9223372036854775807) (A_ : AH) : valA Tryd.prog 25 #[.int .i64 (n : Int)] A_ = some (.string (decB n)) := valA_eq (pureA_of (by kernel_rfl) (rDec_h n hn))
end Go.Proofs.YtejcnpllodgmlaaDoor
