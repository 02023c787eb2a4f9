/-
Card numbers: the walks of comparing, grouping and stripping.
Conditions: none.
-/
import Derived.Test.YtnpjgimkllebhaaDoorPnZ
namespace Go.Proofs.YtnpjgimkllebhaaDoor
open Go.Vm
set_option linter.unusedSimpArgs false
set_option linter.unusedVariables false
set_option maxHeartbeats 1000000
set_option maxRecDepth 20000
theorem panWithin_h (s lo hi : List UInt8) (hs : s.length ≤ 10000) (hlo : lo.length ≤ 10000) (hhi : hi.length ≤ 10000) : CallA Tryd.prog 25 #[.string (bs s), .string (bs lo), .string (bs hi)] [] (fun u_ _ => u_ = .bool (wthB s lo hi)) := by
  refine callA_of_denA ⟨Tryd.prog, 25, Tryd.f25, 50, [0, 1, 2, 6, 7], [], [], _⟩ (args := [_, _, _]) Tryd.func25 rfl (by kernel_rfl) Tryd.ntmps25 (by simp) (by kernel_rfl) ?_
  intro ν fr; have nuE := fr.nu
  have d1 := fun A => areDigits_v s (by omega) A
  have d2 := fun A => areDigits_v lo (by omega) A
  have d3 := fun A => areDigits_v hi (by omega) A
  by_cases h1 : lo.length = hi.length
  · have q1 : ((lo.length : Int) != (hi.length : Int)) = false := by simp; omega
    by_cases h2 : 1 ≤ lo.length
    · have q2 : ((lo.length : Int) < 1) = False := eq_false (by omega)
      by_cases h3 : lo.length ≤ s.length
      · have q3 : ((s.length : Int) < (lo.length : Int)) = False := eq_false (by omega)
        have b0 : ((lo.length : Int) ≤ (s.length : Int)) = True := eq_true (by omega)
        cases e1 : s.all digB with
        | false => simp (maxDischargeDepth := 16) only [argE_nil, argE_cons, ↓vmD, vmV, vmStd, Nat.reduceMul, ↓reduceIte, Nat.reduceAdd, Nat.reduceSub, Nat.reduceEqDiff, Nat.reduceLT, Nat.reduceLeDiff, reduceCtorEq, Int.reduceToNat, Int.reduceLT, Int.reduceLE, Int.reduceEq, Int.reduceNeg, Int.reduceBEq, Int.reduceBNe, String.reduceEq, forall_const, ↓vmDA, vmVA, ↓vmQA, vmR, vmRA, ↓vmSA, vmSV, tyS, nuE, areDigits_v, panSum_v, rdigits_v, rsum_v, panLuhn_v, rLuhn_v, panCheck_v, rCheck_v, panCd_v, rCd_v, ↓sA_usd, ↓sA_ust, soft_usd, soft_ust, cnvN_pu, cnvN_up, eqS_pp, isPrefix_v, rMake_v, panIndex_v, rIndex_v, panMask_v, rMask_v, bs_size, q1, q2, q3, d1, e1, wthB, Bool.false_and, Bool.and_false]
        | true =>
          cases e2 : lo.all digB with
          | false => simp (maxDischargeDepth := 16) only [argE_nil, argE_cons, ↓vmD, vmV, vmStd, Nat.reduceMul, ↓reduceIte, Nat.reduceAdd, Nat.reduceSub, Nat.reduceEqDiff, Nat.reduceLT, Nat.reduceLeDiff, reduceCtorEq, Int.reduceToNat, Int.reduceLT, Int.reduceLE, Int.reduceEq, Int.reduceNeg, Int.reduceBEq, Int.reduceBNe, String.reduceEq, forall_const, ↓vmDA, vmVA, ↓vmQA, vmR, vmRA, ↓vmSA, vmSV, tyS, nuE, areDigits_v, panSum_v, rdigits_v, rsum_v, panLuhn_v, rLuhn_v, panCheck_v, rCheck_v, panCd_v, rCd_v, ↓sA_usd, ↓sA_ust, soft_usd, soft_ust, cnvN_pu, cnvN_up, eqS_pp, isPrefix_v, rMake_v, panIndex_v, rIndex_v, panMask_v, rMask_v, bs_size, q1, q2, q3, d1, d2, e1, e2, wthB, Bool.false_and, Bool.and_false]
          | true =>
            cases e3 : hi.all digB with
            | false => simp (maxDischargeDepth := 16) only [argE_nil, argE_cons, ↓vmD, vmV, vmStd, Nat.reduceMul, ↓reduceIte, Nat.reduceAdd, Nat.reduceSub, Nat.reduceEqDiff, Nat.reduceLT, Nat.reduceLeDiff, reduceCtorEq, Int.reduceToNat, Int.reduceLT, Int.reduceLE, Int.reduceEq, Int.reduceNeg, Int.reduceBEq, Int.reduceBNe, String.reduceEq, forall_const, ↓vmDA, vmVA, ↓vmQA, vmR, vmRA, ↓vmSA, vmSV, tyS, nuE, areDigits_v, panSum_v, rdigits_v, rsum_v, panLuhn_v, rLuhn_v, panCheck_v, rCheck_v, panCd_v, rCd_v, ↓sA_usd, ↓sA_ust, soft_usd, soft_ust, cnvN_pu, cnvN_up, eqS_pp, isPrefix_v, rMake_v, panIndex_v, rIndex_v, panMask_v, rMask_v, bs_size, q1, q2, q3, d1, d2, d3, e1, e2, e3, wthB, Bool.false_and, Bool.and_false]
            | true =>
              cases e4 : (Op.bytesLess lo (s.take lo.length) || lo == s.take lo.length) with
              | false => simp (maxDischargeDepth := 16) only [argE_nil, argE_cons, ↓vmD, vmV, vmStd, Nat.reduceMul, ↓reduceIte, Nat.reduceAdd, Nat.reduceSub, Nat.reduceEqDiff, Nat.reduceLT, Nat.reduceLeDiff, reduceCtorEq, Int.reduceToNat, Int.reduceLT, Int.reduceLE, Int.reduceEq, Int.reduceNeg, Int.reduceBEq, Int.reduceBNe, String.reduceEq, forall_const, ↓vmDA, vmVA, ↓vmQA, vmR, vmRA, ↓vmSA, vmSV, tyS, nuE, areDigits_v, panSum_v, rdigits_v, rsum_v, panLuhn_v, rLuhn_v, panCheck_v, rCheck_v, panCd_v, rCd_v, ↓sA_usd, ↓sA_ust, soft_usd, soft_ust, cnvN_pu, cnvN_up, eqS_pp, isPrefix_v, rMake_v, panIndex_v, rIndex_v, panMask_v, rMask_v, bs_size, q1, q2, q3, b0, d1, d2, d3, e1, e2, e3, e4, bs_ext, bs_list, List.drop_zero, wthB, Bool.false_and, Bool.and_false]
              | true => 
                have hv : wthB s lo hi = (Op.bytesLess (s.take lo.length) hi || s.take lo.length == hi) := by
                  unfold wthB
                  rw [e1, e2, e3, e4, decide_eq_true h1, decide_eq_true h2, decide_eq_true h3]
                  simp only [Bool.true_and]
                simp (maxDischargeDepth := 16) only [argE_nil, argE_cons, ↓vmD, vmV, vmStd, Nat.reduceMul, ↓reduceIte, Nat.reduceAdd, Nat.reduceSub, Nat.reduceEqDiff, Nat.reduceLT, Nat.reduceLeDiff, reduceCtorEq, Int.reduceToNat, Int.reduceLT, Int.reduceLE, Int.reduceEq, Int.reduceNeg, Int.reduceBEq, Int.reduceBNe, String.reduceEq, forall_const, ↓vmDA, vmVA, ↓vmQA, vmR, vmRA, ↓vmSA, vmSV, tyS, nuE, areDigits_v, panSum_v, rdigits_v, rsum_v, panLuhn_v, rLuhn_v, panCheck_v, rCheck_v, panCd_v, rCd_v, ↓sA_usd, ↓sA_ust, soft_usd, soft_ust, cnvN_pu, cnvN_up, eqS_pp, isPrefix_v, rMake_v, panIndex_v, rIndex_v, panMask_v, rMask_v, bs_size, q1, q2, q3, b0, d1, d2, d3, e1, e2, e3, e4, bs_ext, bs_list, List.drop_zero, hv]
      · have q3 : ((s.length : Int) < (lo.length : Int)) = True := eq_true (by omega)
        simp (maxDischargeDepth := 16) only [argE_nil, argE_cons, ↓vmD, vmV, vmStd, Nat.reduceMul, ↓reduceIte, Nat.reduceAdd, Nat.reduceSub, Nat.reduceEqDiff, Nat.reduceLT, Nat.reduceLeDiff, reduceCtorEq, Int.reduceToNat, Int.reduceLT, Int.reduceLE, Int.reduceEq, Int.reduceNeg, Int.reduceBEq, Int.reduceBNe, String.reduceEq, forall_const, ↓vmDA, vmVA, ↓vmQA, vmR, vmRA, ↓vmSA, vmSV, tyS, nuE, areDigits_v, panSum_v, rdigits_v, rsum_v, panLuhn_v, rLuhn_v, panCheck_v, rCheck_v, panCd_v, rCd_v, ↓sA_usd, ↓sA_ust, soft_usd, soft_ust, cnvN_pu, cnvN_up, eqS_pp, isPrefix_v, rMake_v, panIndex_v, rIndex_v, panMask_v, rMask_v, bs_size, q1, q2, q3, wthB, h3, Bool.false_and, Bool.and_false]
    · have q2 : ((lo.length : Int) < 1) = True := eq_true (by omega)
      simp (maxDischargeDepth := 16) only [argE_nil, argE_cons, ↓vmD, vmV, vmStd, Nat.reduceMul, ↓reduceIte, Nat.reduceAdd, Nat.reduceSub, Nat.reduceEqDiff, Nat.reduceLT, Nat.reduceLeDiff, reduceCtorEq, Int.reduceToNat, Int.reduceLT, Int.reduceLE, Int.reduceEq, Int.reduceNeg, Int.reduceBEq, Int.reduceBNe, String.reduceEq, forall_const, ↓vmDA, vmVA, ↓vmQA, vmR, vmRA, ↓vmSA, vmSV, tyS, nuE, areDigits_v, panSum_v, rdigits_v, rsum_v, panLuhn_v, rLuhn_v, panCheck_v, rCheck_v, panCd_v, rCd_v, ↓sA_usd, ↓sA_ust, soft_usd, soft_ust, cnvN_pu, cnvN_up, eqS_pp, isPrefix_v, rMake_v, panIndex_v, rIndex_v, panMask_v, rMask_v, bs_size, q1, q2, wthB, h2, Bool.false_and, Bool.and_false]
  · have q1 : ((lo.length : Int) != (hi.length : Int)) = true := by simp; omega
    simp (maxDischargeDepth := 16) only [argE_nil, argE_cons, ↓vmD, vmV, vmStd, Nat.reduceMul, ↓reduceIte, Nat.reduceAdd, Nat.reduceSub, Nat.reduceEqDiff, Nat.reduceLT, Nat.reduceLeDiff, reduceCtorEq, Int.reduceToNat, Int.reduceLT, Int.reduceLE, Int.reduceEq, Int.reduceNeg, Int.reduceBEq, Int.reduceBNe, String.reduceEq, forall_const, ↓vmDA, vmVA, ↓vmQA, vmR, vmRA, ↓vmSA, vmSV, tyS, nuE, areDigits_v, panSum_v, rdigits_v, rsum_v, panLuhn_v, rLuhn_v, panCheck_v, rCheck_v, panCd_v, rCd_v, ↓sA_usd, ↓sA_ust, soft_usd, soft_ust, cnvN_pu, cnvN_up, eqS_pp, isPrefix_v, rMake_v, panIndex_v, rIndex_v, panMask_v, rMask_v, bs_size, q1, wthB, h1, Bool.false_and, Bool.and_false]
theorem panWithin_v (s lo hi : List UInt8) (hs : s.length ≤ 10000) (hlo : lo.length ≤ 10000) (hhi : hi.length ≤ 10000) (A_ : AH) : valA Tryd.prog 25 #[.string (bs s), .string (bs lo), .string (bs hi)] A_ = some (.bool (wthB s lo hi)) := valA_eq (pureA_of (by kernel_rfl) (panWithin_h s lo hi hs hlo hhi))
theorem rWithin_h (s lo hi : List UInt8) (hs : s.length ≤ 10000) (hlo : lo.length ≤ 10000) (hhi : hi.length ≤ 10000) : CallA Tryd.prog 26 #[.string (bs s), .string (bs lo), .string (bs hi)] [] (fun u_ _ => u_ = .bool (wthB s lo hi)) := by
  refine callA_of_denA ⟨Tryd.prog, 26, Tryd.f26, 50, [0, 1, 2, 6, 7], [], [], _⟩ (args := [_, _, _]) Tryd.func26 rfl (by kernel_rfl) Tryd.ntmps26 (by simp) (by kernel_rfl) ?_
  intro ν fr; have nuE := fr.nu
  have d1 := fun A => rdigits_v s (by omega) A
  have d2 := fun A => rdigits_v lo (by omega) A
  have d3 := fun A => rdigits_v hi (by omega) A
  cases e1 : s.all digB with
  | false => simp (maxDischargeDepth := 16) only [argE_nil, argE_cons, ↓vmD, vmV, vmStd, Nat.reduceMul, ↓reduceIte, Nat.reduceAdd, Nat.reduceSub, Nat.reduceEqDiff, Nat.reduceLT, Nat.reduceLeDiff, reduceCtorEq, Int.reduceToNat, Int.reduceLT, Int.reduceLE, Int.reduceEq, Int.reduceNeg, Int.reduceBEq, Int.reduceBNe, String.reduceEq, forall_const, ↓vmDA, vmVA, ↓vmQA, vmR, vmRA, ↓vmSA, vmSV, tyS, nuE, areDigits_v, panSum_v, rdigits_v, rsum_v, panLuhn_v, rLuhn_v, panCheck_v, rCheck_v, panCd_v, rCd_v, ↓sA_usd, ↓sA_ust, soft_usd, soft_ust, cnvN_pu, cnvN_up, eqS_pp, isPrefix_v, rMake_v, panIndex_v, rIndex_v, panMask_v, rMask_v, panWithin_v, bs_size, d1, e1, wthB, Bool.false_and, Bool.and_false]
  | true =>
    cases e2 : lo.all digB with
    | false => simp (maxDischargeDepth := 16) only [argE_nil, argE_cons, ↓vmD, vmV, vmStd, Nat.reduceMul, ↓reduceIte, Nat.reduceAdd, Nat.reduceSub, Nat.reduceEqDiff, Nat.reduceLT, Nat.reduceLeDiff, reduceCtorEq, Int.reduceToNat, Int.reduceLT, Int.reduceLE, Int.reduceEq, Int.reduceNeg, Int.reduceBEq, Int.reduceBNe, String.reduceEq, forall_const, ↓vmDA, vmVA, ↓vmQA, vmR, vmRA, ↓vmSA, vmSV, tyS, nuE, areDigits_v, panSum_v, rdigits_v, rsum_v, panLuhn_v, rLuhn_v, panCheck_v, rCheck_v, panCd_v, rCd_v, ↓sA_usd, ↓sA_ust, soft_usd, soft_ust, cnvN_pu, cnvN_up, eqS_pp, isPrefix_v, rMake_v, panIndex_v, rIndex_v, panMask_v, rMask_v, panWithin_v, bs_size, d1, d2, e1, e2, wthB, Bool.false_and, Bool.and_false]
    | true =>
      cases e3 : hi.all digB with
      | false => simp (maxDischargeDepth := 16) only [argE_nil, argE_cons, ↓vmD, vmV, vmStd, Nat.reduceMul, ↓reduceIte, Nat.reduceAdd, Nat.reduceSub, Nat.reduceEqDiff, Nat.reduceLT, Nat.reduceLeDiff, reduceCtorEq, Int.reduceToNat, Int.reduceLT, Int.reduceLE, Int.reduceEq, Int.reduceNeg, Int.reduceBEq, Int.reduceBNe, String.reduceEq, forall_const, ↓vmDA, vmVA, ↓vmQA, vmR, vmRA, ↓vmSA, vmSV, tyS, nuE, areDigits_v, panSum_v, rdigits_v, rsum_v, panLuhn_v, rLuhn_v, panCheck_v, rCheck_v, panCd_v, rCd_v, ↓sA_usd, ↓sA_ust, soft_usd, soft_ust, cnvN_pu, cnvN_up, eqS_pp, isPrefix_v, rMake_v, panIndex_v, rIndex_v, panMask_v, rMask_v, panWithin_v, bs_size, d1, d2, d3, e1, e2, e3, wthB, Bool.false_and, Bool.and_false]
      | true =>
        by_cases h1 : lo.length = hi.length
        · have q1 : ((lo.length : Int) == (hi.length : Int)) = true := by simp; omega
          by_cases h2 : 1 ≤ lo.length
          · have q2 : ((1 : Int) ≤ (lo.length : Int)) = True := eq_true (by omega)
            by_cases h3 : lo.length ≤ s.length
            · have b0 : ((lo.length : Int) ≤ (s.length : Int)) = True := eq_true (by omega)
              cases e4 : (Op.bytesLess lo (s.take lo.length) || lo == s.take lo.length) with
              | false => simp (maxDischargeDepth := 16) only [argE_nil, argE_cons, ↓vmD, vmV, vmStd, Nat.reduceMul, ↓reduceIte, Nat.reduceAdd, Nat.reduceSub, Nat.reduceEqDiff, Nat.reduceLT, Nat.reduceLeDiff, reduceCtorEq, Int.reduceToNat, Int.reduceLT, Int.reduceLE, Int.reduceEq, Int.reduceNeg, Int.reduceBEq, Int.reduceBNe, String.reduceEq, forall_const, ↓vmDA, vmVA, ↓vmQA, vmR, vmRA, ↓vmSA, vmSV, tyS, nuE, areDigits_v, panSum_v, rdigits_v, rsum_v, panLuhn_v, rLuhn_v, panCheck_v, rCheck_v, panCd_v, rCd_v, ↓sA_usd, ↓sA_ust, soft_usd, soft_ust, cnvN_pu, cnvN_up, eqS_pp, isPrefix_v, rMake_v, panIndex_v, rIndex_v, panMask_v, rMask_v, panWithin_v, bs_size, q1, q2, b0, d1, d2, d3, e1, e2, e3, e4, bs_ext, bs_list, List.drop_zero, wthB, Bool.false_and, Bool.and_false]
              | true => 
                have hv : wthB s lo hi = (Op.bytesLess (s.take lo.length) hi || s.take lo.length == hi) := by
                  unfold wthB
                  rw [e1, e2, e3, e4, decide_eq_true h1, decide_eq_true h2, decide_eq_true h3]
                  simp only [Bool.true_and]
                simp (maxDischargeDepth := 16) only [argE_nil, argE_cons, ↓vmD, vmV, vmStd, Nat.reduceMul, ↓reduceIte, Nat.reduceAdd, Nat.reduceSub, Nat.reduceEqDiff, Nat.reduceLT, Nat.reduceLeDiff, reduceCtorEq, Int.reduceToNat, Int.reduceLT, Int.reduceLE, Int.reduceEq, Int.reduceNeg, Int.reduceBEq, Int.reduceBNe, String.reduceEq, forall_const, ↓vmDA, vmVA, ↓vmQA, vmR, vmRA, ↓vmSA, vmSV, tyS, nuE, areDigits_v, panSum_v, rdigits_v, rsum_v, panLuhn_v, rLuhn_v, panCheck_v, rCheck_v, panCd_v, rCd_v, ↓sA_usd, ↓sA_ust, soft_usd, soft_ust, cnvN_pu, cnvN_up, eqS_pp, isPrefix_v, rMake_v, panIndex_v, rIndex_v, panMask_v, rMask_v, panWithin_v, bs_size, q1, q2, b0, d1, d2, d3, e1, e2, e3, e4, bs_ext, bs_list, List.drop_zero, hv]
            · have b0 : ((lo.length : Int) ≤ (s.length : Int)) = False := eq_false (by omega)
              simp (maxDischargeDepth := 16) only [argE_nil, argE_cons, ↓vmD, vmV, vmStd, Nat.reduceMul, ↓reduceIte, Nat.reduceAdd, Nat.reduceSub, Nat.reduceEqDiff, Nat.reduceLT, Nat.reduceLeDiff, reduceCtorEq, Int.reduceToNat, Int.reduceLT, Int.reduceLE, Int.reduceEq, Int.reduceNeg, Int.reduceBEq, Int.reduceBNe, String.reduceEq, forall_const, ↓vmDA, vmVA, ↓vmQA, vmR, vmRA, ↓vmSA, vmSV, tyS, nuE, areDigits_v, panSum_v, rdigits_v, rsum_v, panLuhn_v, rLuhn_v, panCheck_v, rCheck_v, panCd_v, rCd_v, ↓sA_usd, ↓sA_ust, soft_usd, soft_ust, cnvN_pu, cnvN_up, eqS_pp, isPrefix_v, rMake_v, panIndex_v, rIndex_v, panMask_v, rMask_v, panWithin_v, bs_size, q1, q2, b0, d1, d2, d3, e1, e2, e3, wthB, h3, Bool.false_and, Bool.and_false]
          · have q2 : ((1 : Int) ≤ (lo.length : Int)) = False := eq_false (by omega)
            simp (maxDischargeDepth := 16) only [argE_nil, argE_cons, ↓vmD, vmV, vmStd, Nat.reduceMul, ↓reduceIte, Nat.reduceAdd, Nat.reduceSub, Nat.reduceEqDiff, Nat.reduceLT, Nat.reduceLeDiff, reduceCtorEq, Int.reduceToNat, Int.reduceLT, Int.reduceLE, Int.reduceEq, Int.reduceNeg, Int.reduceBEq, Int.reduceBNe, String.reduceEq, forall_const, ↓vmDA, vmVA, ↓vmQA, vmR, vmRA, ↓vmSA, vmSV, tyS, nuE, areDigits_v, panSum_v, rdigits_v, rsum_v, panLuhn_v, rLuhn_v, panCheck_v, rCheck_v, panCd_v, rCd_v, ↓sA_usd, ↓sA_ust, soft_usd, soft_ust, cnvN_pu, cnvN_up, eqS_pp, isPrefix_v, rMake_v, panIndex_v, rIndex_v, panMask_v, rMask_v, panWithin_v, bs_size, q1, q2, d1, d2, d3, e1, e2, e3, wthB, h2, Bool.false_and, Bool.and_false]
        · have q1 : ((lo.length : Int) == (hi.length : Int)) = false := by simp; omega
          simp (maxDischargeDepth := 16) only [argE_nil, argE_cons, ↓vmD, vmV, vmStd, Nat.reduceMul, ↓reduceIte, Nat.reduceAdd, Nat.reduceSub, Nat.reduceEqDiff, Nat.reduceLT, Nat.reduceLeDiff, reduceCtorEq, Int.reduceToNat, Int.reduceLT, Int.reduceLE, Int.reduceEq, Int.reduceNeg, Int.reduceBEq, Int.reduceBNe, String.reduceEq, forall_const, ↓vmDA, vmVA, ↓vmQA, vmR, vmRA, ↓vmSA, vmSV, tyS, nuE, areDigits_v, panSum_v, rdigits_v, rsum_v, panLuhn_v, rLuhn_v, panCheck_v, rCheck_v, panCd_v, rCd_v, ↓sA_usd, ↓sA_ust, soft_usd, soft_ust, cnvN_pu, cnvN_up, eqS_pp, isPrefix_v, rMake_v, panIndex_v, rIndex_v, panMask_v, rMask_v, panWithin_v, bs_size, q1, d1, d2, d3, e1, e2, e3, wthB, h1, Bool.false_and, Bool.and_false]
theorem rWithin_v (s lo hi : List UInt8) (hs : s.length ≤ 10000) (hlo : lo.length ≤ 10000) (hhi : hi.length ≤ 10000) (A_ : AH) : valA Tryd.prog 26 #[.string (bs s), .string (bs lo), .string (bs hi)] A_ = some (.bool (wthB s lo hi)) := valA_eq (pureA_of (by kernel_rfl) (rWithin_h s lo hi hs hlo hhi))
/-! ### Digits at a place -/
def dgI (l : List UInt8) (i : Int) : Bool := decide (0 ≤ i) && (match l[i.toNat]? with | some c => digB c | none => false)
theorem dgI_some {l : List UInt8} {e : Nat} {c : UInt8} (h : l[e]? = some c) : dgI l (e : Int) = digB c := by simp [dgI, h]
theorem dgI_end {l : List UInt8} {e : Nat} (h : l.length ≤ e) : dgI l (e : Int) = false := by simp [dgI, List.getElem?_eq_none h]
theorem dgI_neg {l : List UInt8} {i : Int} (h : i < 0) : dgI l i = false := by simp [dgI]; omega
theorem panDgAt_h (l : List UInt8) (i : Int) (hl : l.length ≤ 1000000) : CallA Tryd.prog 39 #[.string (bs l), .int .i64 i] [] (fun u_ _ => u_ = .bool (dgI l i)) := by
  refine callA_of_denA ⟨Tryd.prog, 39, Tryd.f39, 25, [0, 1, 4], [], [], _⟩ (args := [_, _]) Tryd.func39 rfl (by kernel_rfl) Tryd.ntmps39 (by simp) (by kernel_rfl) ?_
  intro ν fr; have nuE := fr.nu
  by_cases h0 : 0 ≤ i
  · obtain ⟨e, rfl⟩ := Int.eq_ofNat_of_zero_le h0
    have q0 : ((0 : Int) ≤ (e : Int)) = True := eq_true (by omega)
    by_cases h1 : e < l.length
    · have q1 : ((e : Int) < (l.length : Int)) = True := eq_true (by omega)
      obtain ⟨c, hc⟩ : ∃ c, l[e]? = some c := ⟨_, List.getElem?_eq_getElem h1⟩
      have hv := dgI_some hc
      by_cases h48 : 48 ≤ c.toNat
      · have q2 : ((48 : Int) ≤ (c.toNat : Int)) = True := eq_true (by omega)
        by_cases h57 : c.toNat ≤ 57
        · have q3 : ((c.toNat : Int) ≤ 57) = True := eq_true (by omega)
          simp (maxDischargeDepth := 16) only [argE_nil, argE_cons, ↓vmD, vmV, vmStd, Nat.reduceMul, ↓reduceIte, Nat.reduceAdd, Nat.reduceSub, Nat.reduceEqDiff, Nat.reduceLT, Nat.reduceLeDiff, reduceCtorEq, Int.reduceToNat, Int.reduceLT, Int.reduceLE, Int.reduceEq, Int.reduceNeg, Int.reduceBEq, Int.reduceBNe, String.reduceEq, forall_const, ↓vmDA, vmVA, ↓vmQA, vmR, vmRA, ↓vmSA, vmSV, tyS, nuE, areDigits_v, panSum_v, rdigits_v, rsum_v, panLuhn_v, rLuhn_v, panCheck_v, rCheck_v, panCd_v, rCd_v, ↓sA_usd, ↓sA_ust, soft_usd, soft_ust, cnvN_pu, cnvN_up, eqS_pp, isPrefix_v, rMake_v, panIndex_v, rIndex_v, panMask_v, rMask_v, panWithin_v, rWithin_v, bs_size, q0, q1, bs_at, hc, q2, q3, hv, digB, h48, h57]
        · have q3 : ((c.toNat : Int) ≤ 57) = False := eq_false (by omega)
          simp (maxDischargeDepth := 16) only [argE_nil, argE_cons, ↓vmD, vmV, vmStd, Nat.reduceMul, ↓reduceIte, Nat.reduceAdd, Nat.reduceSub, Nat.reduceEqDiff, Nat.reduceLT, Nat.reduceLeDiff, reduceCtorEq, Int.reduceToNat, Int.reduceLT, Int.reduceLE, Int.reduceEq, Int.reduceNeg, Int.reduceBEq, Int.reduceBNe, String.reduceEq, forall_const, ↓vmDA, vmVA, ↓vmQA, vmR, vmRA, ↓vmSA, vmSV, tyS, nuE, areDigits_v, panSum_v, rdigits_v, rsum_v, panLuhn_v, rLuhn_v, panCheck_v, rCheck_v, panCd_v, rCd_v, ↓sA_usd, ↓sA_ust, soft_usd, soft_ust, cnvN_pu, cnvN_up, eqS_pp, isPrefix_v, rMake_v, panIndex_v, rIndex_v, panMask_v, rMask_v, panWithin_v, rWithin_v, bs_size, q0, q1, bs_at, hc, q2, q3, hv, digB, h48, h57]
      · have q2 : ((48 : Int) ≤ (c.toNat : Int)) = False := eq_false (by omega)
        simp (maxDischargeDepth := 16) only [argE_nil, argE_cons, ↓vmD, vmV, vmStd, Nat.reduceMul, ↓reduceIte, Nat.reduceAdd, Nat.reduceSub, Nat.reduceEqDiff, Nat.reduceLT, Nat.reduceLeDiff, reduceCtorEq, Int.reduceToNat, Int.reduceLT, Int.reduceLE, Int.reduceEq, Int.reduceNeg, Int.reduceBEq, Int.reduceBNe, String.reduceEq, forall_const, ↓vmDA, vmVA, ↓vmQA, vmR, vmRA, ↓vmSA, vmSV, tyS, nuE, areDigits_v, panSum_v, rdigits_v, rsum_v, panLuhn_v, rLuhn_v, panCheck_v, rCheck_v, panCd_v, rCd_v, ↓sA_usd, ↓sA_ust, soft_usd, soft_ust, cnvN_pu, cnvN_up, eqS_pp, isPrefix_v, rMake_v, panIndex_v, rIndex_v, panMask_v, rMask_v, panWithin_v, rWithin_v, bs_size, q0, q1, bs_at, hc, q2, hv, digB, h48]
    · have q1 : ((e : Int) < (l.length : Int)) = False := eq_false (by omega)
      have hv := dgI_end (l := l) (e := e) (by omega)
      simp (maxDischargeDepth := 16) only [argE_nil, argE_cons, ↓vmD, vmV, vmStd, Nat.reduceMul, ↓reduceIte, Nat.reduceAdd, Nat.reduceSub, Nat.reduceEqDiff, Nat.reduceLT, Nat.reduceLeDiff, reduceCtorEq, Int.reduceToNat, Int.reduceLT, Int.reduceLE, Int.reduceEq, Int.reduceNeg, Int.reduceBEq, Int.reduceBNe, String.reduceEq, forall_const, ↓vmDA, vmVA, ↓vmQA, vmR, vmRA, ↓vmSA, vmSV, tyS, nuE, areDigits_v, panSum_v, rdigits_v, rsum_v, panLuhn_v, rLuhn_v, panCheck_v, rCheck_v, panCd_v, rCd_v, ↓sA_usd, ↓sA_ust, soft_usd, soft_ust, cnvN_pu, cnvN_up, eqS_pp, isPrefix_v, rMake_v, panIndex_v, rIndex_v, panMask_v, rMask_v, panWithin_v, rWithin_v, bs_size, q0, q1, hv]
  · have q0 : ((0 : Int) ≤ i) = False := eq_false h0
    have hv := dgI_neg (l := l) (i := i) (by omega)
    simp (maxDischargeDepth := 16) only [argE_nil, argE_cons, ↓vmD, vmV, vmStd, Nat.reduceMul, ↓reduceIte, Nat.reduceAdd, Nat.reduceSub, Nat.reduceEqDiff, Nat.reduceLT, Nat.reduceLeDiff, reduceCtorEq, Int.reduceToNat, Int.reduceLT, Int.reduceLE, Int.reduceEq, Int.reduceNeg, Int.reduceBEq, Int.reduceBNe, String.reduceEq, forall_const, ↓vmDA, vmVA, ↓vmQA, vmR, vmRA, ↓vmSA, vmSV, tyS, nuE, areDigits_v, panSum_v, rdigits_v, rsum_v, panLuhn_v, rLuhn_v, panCheck_v, rCheck_v, panCd_v, rCd_v, ↓sA_usd, ↓sA_ust, soft_usd, soft_ust, cnvN_pu, cnvN_up, eqS_pp, isPrefix_v, rMake_v, panIndex_v, rIndex_v, panMask_v, rMask_v, panWithin_v, rWithin_v, bs_size, q0, hv]
theorem panDgAt_v (l : List UInt8) (i : Int) (hl : l.length ≤ 1000000) (A_ : AH) : valA Tryd.prog 39 #[.string (bs l), .int .i64 i] A_ = some (.bool (dgI l i)) := valA_eq (pureA_of (by kernel_rfl) (panDgAt_h l i hl))
theorem rDgAt_h (l : List UInt8) (i : Int) (hl : l.length ≤ 1000000) : CallA Tryd.prog 40 #[.string (bs l), .int .i64 i] [] (fun u_ _ => u_ = .bool (dgI l i)) := by
  refine callA_of_denA ⟨Tryd.prog, 40, Tryd.f40, 25, [0, 1, 4], [], [], _⟩ (args := [_, _]) Tryd.func40 rfl (by kernel_rfl) Tryd.ntmps40 (by simp) (by kernel_rfl) ?_
  intro ν fr; have nuE := fr.nu
  by_cases h0 : 0 ≤ i
  · obtain ⟨e, rfl⟩ := Int.eq_ofNat_of_zero_le h0
    have q0 : ((0 : Int) ≤ (e : Int)) = True := eq_true (by omega)
    by_cases h1 : e < l.length
    · have q1 : ((e : Int) < (l.length : Int)) = True := eq_true (by omega)
      obtain ⟨c, hc⟩ : ∃ c, l[e]? = some c := ⟨_, List.getElem?_eq_getElem h1⟩
      have hv := dgI_some hc
      by_cases h48 : 48 ≤ c.toNat
      · have q2 : ((48 : Int) ≤ (c.toNat : Int)) = True := eq_true (by omega)
        by_cases h57 : c.toNat ≤ 57
        · have q3 : ((c.toNat : Int) ≤ 57) = True := eq_true (by omega)
          simp (maxDischargeDepth := 16) only [argE_nil, argE_cons, ↓vmD, vmV, vmStd, Nat.reduceMul, ↓reduceIte, Nat.reduceAdd, Nat.reduceSub, Nat.reduceEqDiff, Nat.reduceLT, Nat.reduceLeDiff, reduceCtorEq, Int.reduceToNat, Int.reduceLT, Int.reduceLE, Int.reduceEq, Int.reduceNeg, Int.reduceBEq, Int.reduceBNe, String.reduceEq, forall_const, ↓vmDA, vmVA, ↓vmQA, vmR, vmRA, ↓vmSA, vmSV, tyS, nuE, areDigits_v, panSum_v, rdigits_v, rsum_v, panLuhn_v, rLuhn_v, panCheck_v, rCheck_v, panCd_v, rCd_v, ↓sA_usd, ↓sA_ust, soft_usd, soft_ust, cnvN_pu, cnvN_up, eqS_pp, isPrefix_v, rMake_v, panIndex_v, rIndex_v, panMask_v, rMask_v, panWithin_v, rWithin_v, panDgAt_v, bs_size, q0, q1, bs_at, hc, q2, q3, hv, digB, h48, h57]
        · have q3 : ((c.toNat : Int) ≤ 57) = False := eq_false (by omega)
          simp (maxDischargeDepth := 16) only [argE_nil, argE_cons, ↓vmD, vmV, vmStd, Nat.reduceMul, ↓reduceIte, Nat.reduceAdd, Nat.reduceSub, Nat.reduceEqDiff, Nat.reduceLT, Nat.reduceLeDiff, reduceCtorEq, Int.reduceToNat, Int.reduceLT, Int.reduceLE, Int.reduceEq, Int.reduceNeg, Int.reduceBEq, Int.reduceBNe, String.reduceEq, forall_const, ↓vmDA, vmVA, ↓vmQA, vmR, vmRA, ↓vmSA, vmSV, tyS, nuE, areDigits_v, panSum_v, rdigits_v, rsum_v, panLuhn_v, rLuhn_v, panCheck_v, rCheck_v, panCd_v, rCd_v, ↓sA_usd, ↓sA_ust, soft_usd, soft_ust, cnvN_pu, cnvN_up, eqS_pp, isPrefix_v, rMake_v, panIndex_v, rIndex_v, panMask_v, rMask_v, panWithin_v, rWithin_v, panDgAt_v, bs_size, q0, q1, bs_at, hc, q2, q3, hv, digB, h48, h57]
      · have q2 : ((48 : Int) ≤ (c.toNat : Int)) = False := eq_false (by omega)
        simp (maxDischargeDepth := 16) only [argE_nil, argE_cons, ↓vmD, vmV, vmStd, Nat.reduceMul, ↓reduceIte, Nat.reduceAdd, Nat.reduceSub, Nat.reduceEqDiff, Nat.reduceLT, Nat.reduceLeDiff, reduceCtorEq, Int.reduceToNat, Int.reduceLT, Int.reduceLE, Int.reduceEq, Int.reduceNeg, Int.reduceBEq, Int.reduceBNe, String.reduceEq, forall_const, ↓vmDA, vmVA, ↓vmQA, vmR, vmRA, ↓vmSA, vmSV, tyS, nuE, areDigits_v, panSum_v, rdigits_v, rsum_v, panLuhn_v, rLuhn_v, panCheck_v, rCheck_v, panCd_v, rCd_v, ↓sA_usd, ↓sA_ust, soft_usd, soft_ust, cnvN_pu, cnvN_up, eqS_pp, isPrefix_v, rMake_v, panIndex_v, rIndex_v, panMask_v, rMask_v, panWithin_v, rWithin_v, panDgAt_v, bs_size, q0, q1, bs_at, hc, q2, hv, digB, h48]
    · have q1 : ((e : Int) < (l.length : Int)) = False := eq_false (by omega)
      have hv := dgI_end (l := l) (e := e) (by omega)
      simp (maxDischargeDepth := 16) only [argE_nil, argE_cons, ↓vmD, vmV, vmStd, Nat.reduceMul, ↓reduceIte, Nat.reduceAdd, Nat.reduceSub, Nat.reduceEqDiff, Nat.reduceLT, Nat.reduceLeDiff, reduceCtorEq, Int.reduceToNat, Int.reduceLT, Int.reduceLE, Int.reduceEq, Int.reduceNeg, Int.reduceBEq, Int.reduceBNe, String.reduceEq, forall_const, ↓vmDA, vmVA, ↓vmQA, vmR, vmRA, ↓vmSA, vmSV, tyS, nuE, areDigits_v, panSum_v, rdigits_v, rsum_v, panLuhn_v, rLuhn_v, panCheck_v, rCheck_v, panCd_v, rCd_v, ↓sA_usd, ↓sA_ust, soft_usd, soft_ust, cnvN_pu, cnvN_up, eqS_pp, isPrefix_v, rMake_v, panIndex_v, rIndex_v, panMask_v, rMask_v, panWithin_v, rWithin_v, panDgAt_v, bs_size, q0, q1, hv]
  · have q0 : ((0 : Int) ≤ i) = False := eq_false h0
    have hv := dgI_neg (l := l) (i := i) (by omega)
    simp (maxDischargeDepth := 16) only [argE_nil, argE_cons, ↓vmD, vmV, vmStd, Nat.reduceMul, ↓reduceIte, Nat.reduceAdd, Nat.reduceSub, Nat.reduceEqDiff, Nat.reduceLT, Nat.reduceLeDiff, reduceCtorEq, Int.reduceToNat, Int.reduceLT, Int.reduceLE, Int.reduceEq, Int.reduceNeg, Int.reduceBEq, Int.reduceBNe, String.reduceEq, forall_const, ↓vmDA, vmVA, ↓vmQA, vmR, vmRA, ↓vmSA, vmSV, tyS, nuE, areDigits_v, panSum_v, rdigits_v, rsum_v, panLuhn_v, rLuhn_v, panCheck_v, rCheck_v, panCd_v, rCd_v, ↓sA_usd, ↓sA_ust, soft_usd, soft_ust, cnvN_pu, cnvN_up, eqS_pp, isPrefix_v, rMake_v, panIndex_v, rIndex_v, panMask_v, rMask_v, panWithin_v, rWithin_v, panDgAt_v, bs_size, q0, hv]
theorem rDgAt_v (l : List UInt8) (i : Int) (hl : l.length ≤ 1000000) (A_ : AH) : valA Tryd.prog 40 #[.string (bs l), .int .i64 i] A_ = some (.bool (dgI l i)) := valA_eq (pureA_of (by kernel_rfl) (rDgAt_h l i hl))
/-! ### Groups -/
theorem grp_len : ∀ (l : List UInt8) (i : Nat), (grpL i l).length ≤ 2 * l.length
  | [], _ => by simp [grpL]
  | c :: l, i => by
    have := grp_len l (i + 1)
    simp only [grpL, List.length_append, List.length_cons]
    split <;> simp <;> omega
theorem bs32 : (ByteArray.mk #[32]) = bs [32] := rfl
theorem rGroup_h (l : List UInt8) (hl : l.length ≤ 100000) : CallA Tryd.prog 20 #[.string (bs l)] [] (fun u_ _ => u_ = .string (bs (grpL 0 l))) := by
  refine callA_of_denA ⟨Tryd.prog, 20, Tryd.f20, 28, [0, 2, 3, 4], [], [], _⟩ (args := [_]) Tryd.func20 rfl (by kernel_rfl) Tryd.ntmps20 (by simp) (by kernel_rfl) ?_
  intro ν fr; have nuE := fr.nu
  simp (maxDischargeDepth := 16) only [argE_nil, argE_cons, ↓vmD, vmV, vmStd, Nat.reduceMul, ↓reduceIte, Nat.reduceAdd, Nat.reduceSub, Nat.reduceEqDiff, Nat.reduceLT, Nat.reduceLeDiff, reduceCtorEq, Int.reduceToNat, Int.reduceLT, Int.reduceLE, Int.reduceEq, Int.reduceNeg, Int.reduceBEq, Int.reduceBNe, String.reduceEq, forall_const, ↓vmDA, vmVA, ↓vmQA, vmR, vmRA, ↓vmSA, vmSV, tyS, nuE, areDigits_v, panSum_v, rdigits_v, rsum_v, panLuhn_v, rLuhn_v, panCheck_v, rCheck_v, panCd_v, rCd_v, ↓sA_usd, ↓sA_ust, soft_usd, soft_ust, cnvN_pu, cnvN_up, eqS_pp, isPrefix_v, rMake_v, panIndex_v, rIndex_v, panMask_v, rMask_v, panWithin_v, rWithin_v, panDgAt_v, rDgAt_v]
  obtain ⟨e, k, dn, acc, he, hac, ha, h3, hk, hle⟩ : ∃ (e : Nat) (k dn acc : List UInt8), e = 0 ∧ acc = [] ∧ l = dn ++ k ∧ dn.length = e ∧ grpL 0 l = acc ++ grpL e k ∧ acc.length ≤ 2 * e := ⟨0, l, [], [], rfl, rfl, rfl, rfl, rfl, by simp⟩
  rw [show (4, some (Value.int .i64 0)) = (4, some (Value.int .i64 (e : Int))) by rw [he]; rfl]
  rw [show (3, some (Value.string ⟨#[]⟩)) = (3, some (Value.string (bs acc))) by rw [hac]; rfl]
  clear he hac nuE fr
  induction k generalizing e dn acc with
  | nil =>
    obtain ⟨lt, hd2, hle, dc⟩ := at_nil ha h3
    have hm : grpL 0 l = acc := by rw [hk]; simp [grpL]
    refine LoopA.intro (by kernel_rfl) ?_
    intro ν fr; have nuE := fr.nu
    simp (maxDischargeDepth := 16) only [argE_nil, argE_cons, ↓vmD, vmV, vmStd, Nat.reduceMul, ↓reduceIte, Nat.reduceAdd, Nat.reduceSub, Nat.reduceEqDiff, Nat.reduceLT, Nat.reduceLeDiff, reduceCtorEq, Int.reduceToNat, Int.reduceLT, Int.reduceLE, Int.reduceEq, Int.reduceNeg, Int.reduceBEq, Int.reduceBNe, String.reduceEq, forall_const, ↓vmDA, vmVA, ↓vmQA, vmR, vmRA, ↓vmSA, vmSV, tyS, nuE, areDigits_v, panSum_v, rdigits_v, rsum_v, panLuhn_v, rLuhn_v, panCheck_v, rCheck_v, panCd_v, rCd_v, ↓sA_usd, ↓sA_ust, soft_usd, soft_ust, cnvN_pu, cnvN_up, eqS_pp, isPrefix_v, rMake_v, panIndex_v, rIndex_v, panMask_v, rMask_v, panWithin_v, rWithin_v, panDgAt_v, rDgAt_v, bs_size, lt, hm]
  | cons c k ih =>
    obtain ⟨lt, we, hc, hle2, dc, ha', h3', hlen⟩ := at_cons ha h3 (by omega)
    have s1 : acc.length + 1 ≤ 9223372036854775807 := by omega
    have s2 : acc.length + 1 + 1 ≤ 9223372036854775807 := by omega
    have ex := sl_one ha' h3' h3
    have b1 : ((e : Int) ≤ ((e + 1 : Nat) : Int)) = True := eq_true (by omega)
    have b2 : (((e + 1 : Nat) : Int) ≤ (l.length : Int)) = True := eq_true (by omega)
    have m4 : (e : Int).tmod 4 = ((e % 4 : Nat) : Int) := by rw [Int.tmod_eq_emod_of_nonneg (by omega)]; omega
    refine LoopA.intro (by kernel_rfl) ?_
    intro ν fr; have nuE := fr.nu
    by_cases h0 : 0 < e
    · have q0 : ((0 : Int) < (e : Int)) = True := eq_true (by omega)
      by_cases h4 : e % 4 = 0
      · simp (maxDischargeDepth := 16) only [argE_nil, argE_cons, ↓vmD, vmV, vmStd, Nat.reduceMul, ↓reduceIte, Nat.reduceAdd, Nat.reduceSub, Nat.reduceEqDiff, Nat.reduceLT, Nat.reduceLeDiff, reduceCtorEq, Int.reduceToNat, Int.reduceLT, Int.reduceLE, Int.reduceEq, Int.reduceNeg, Int.reduceBEq, Int.reduceBNe, String.reduceEq, forall_const, ↓vmDA, vmVA, ↓vmQA, vmR, vmRA, ↓vmSA, vmSV, tyS, nuE, areDigits_v, panSum_v, rdigits_v, rsum_v, panLuhn_v, rLuhn_v, panCheck_v, rCheck_v, panCd_v, rCd_v, ↓sA_usd, ↓sA_ust, soft_usd, soft_ust, cnvN_pu, cnvN_up, eqS_pp, isPrefix_v, rMake_v, panIndex_v, rIndex_v, panMask_v, rMask_v, panWithin_v, rWithin_v, panDgAt_v, rDgAt_v, bs_size, lt, q0, m4, mod_beq, h4, we, b1, b2, bs_ext, ex, bs32, bs_app, List.length_singleton, List.length_append, s1, s2]
        exact LoopA.weak (ih (e + 1) (dn ++ [c]) (acc ++ [32] ++ [c]) ha' h3' (by rw [hk]; simp [grpL, h0, h4]) (by simp; omega)) (by simp only [subE, get_cons, Nat.reduceEqDiff, ↓reduceIte, reduceCtorEq, Nat.reduceAdd, and_self, and_true]) (SubA.refl _)
      · simp (maxDischargeDepth := 16) only [argE_nil, argE_cons, ↓vmD, vmV, vmStd, Nat.reduceMul, ↓reduceIte, Nat.reduceAdd, Nat.reduceSub, Nat.reduceEqDiff, Nat.reduceLT, Nat.reduceLeDiff, reduceCtorEq, Int.reduceToNat, Int.reduceLT, Int.reduceLE, Int.reduceEq, Int.reduceNeg, Int.reduceBEq, Int.reduceBNe, String.reduceEq, forall_const, ↓vmDA, vmVA, ↓vmQA, vmR, vmRA, ↓vmSA, vmSV, tyS, nuE, areDigits_v, panSum_v, rdigits_v, rsum_v, panLuhn_v, rLuhn_v, panCheck_v, rCheck_v, panCd_v, rCd_v, ↓sA_usd, ↓sA_ust, soft_usd, soft_ust, cnvN_pu, cnvN_up, eqS_pp, isPrefix_v, rMake_v, panIndex_v, rIndex_v, panMask_v, rMask_v, panWithin_v, rWithin_v, panDgAt_v, rDgAt_v, bs_size, lt, q0, m4, mod_beq, h4, we, b1, b2, bs_ext, ex, bs32, bs_app, List.length_singleton, s1]
        exact LoopA.weak (ih (e + 1) (dn ++ [c]) (acc ++ [c]) ha' h3' (by rw [hk]; simp [grpL, h4]) (by simp; omega)) (by simp only [subE, get_cons, Nat.reduceEqDiff, ↓reduceIte, reduceCtorEq, Nat.reduceAdd, and_self, and_true]) (SubA.refl _)
    · have q0 : ((0 : Int) < (e : Int)) = False := eq_false (by omega)
      simp (maxDischargeDepth := 16) only [argE_nil, argE_cons, ↓vmD, vmV, vmStd, Nat.reduceMul, ↓reduceIte, Nat.reduceAdd, Nat.reduceSub, Nat.reduceEqDiff, Nat.reduceLT, Nat.reduceLeDiff, reduceCtorEq, Int.reduceToNat, Int.reduceLT, Int.reduceLE, Int.reduceEq, Int.reduceNeg, Int.reduceBEq, Int.reduceBNe, String.reduceEq, forall_const, ↓vmDA, vmVA, ↓vmQA, vmR, vmRA, ↓vmSA, vmSV, tyS, nuE, areDigits_v, panSum_v, rdigits_v, rsum_v, panLuhn_v, rLuhn_v, panCheck_v, rCheck_v, panCd_v, rCd_v, ↓sA_usd, ↓sA_ust, soft_usd, soft_ust, cnvN_pu, cnvN_up, eqS_pp, isPrefix_v, rMake_v, panIndex_v, rIndex_v, panMask_v, rMask_v, panWithin_v, rWithin_v, panDgAt_v, rDgAt_v, bs_size, lt, q0, we, b1, b2, bs_ext, ex, bs32, bs_app, List.length_singleton, s1]
      exact LoopA.weak (ih (e + 1) (dn ++ [c]) (acc ++ [c]) ha' h3' (by rw [hk]; simp [grpL, h0]) (by simp; omega)) (by simp only [subE, get_cons, Nat.reduceEqDiff, ↓reduceIte, reduceCtorEq, Nat.reduceAdd, and_self, and_true]) (SubA.refl _)
theorem rGroup_v (l : List UInt8) (hl : l.length ≤ 100000) (A_ : AH) : valA Tryd.prog 20 #[.string (bs l)] A_ = some (.string (bs (grpL 0 l))) := valA_eq (pureA_of (by kernel_rfl) (rGroup_h l hl))
theorem dis_nil (E : AH) : Dis E [] := fun x hx => absurd rfl hx
theorem panGroup_h (l : List UInt8) (hl : l.length ≤ 100000) : CallA Tryd.prog 19 #[.string (bs l)] [] (fun u_ _ => u_ = .string (bs (grpL 0 l))) := by
  refine callA_of_denA ⟨Tryd.prog, 19, Tryd.f19, 24, [0, 2, 3, 4, 6, 7], [34, 35], [], _⟩ (args := [_]) Tryd.func19 rfl (by kernel_rfl) Tryd.ntmps19 (by simp) (by kernel_rfl) ?_
  intro ν fr; have nuE := fr.nu
  simp (maxDischargeDepth := 16) only [argE_nil, argE_cons, ↓vmD, vmV, vmStd, Nat.reduceMul, ↓reduceIte, Nat.reduceAdd, Nat.reduceSub, Nat.reduceEqDiff, Nat.reduceLT, Nat.reduceLeDiff, reduceCtorEq, Int.reduceToNat, Int.reduceLT, Int.reduceLE, Int.reduceEq, Int.reduceNeg, Int.reduceBEq, Int.reduceBNe, String.reduceEq, forall_const, ↓vmDA, vmVA, ↓vmQA, vmR, vmRA, ↓vmSA, vmSV, tyS, nuE, areDigits_v, panSum_v, rdigits_v, rsum_v, panLuhn_v, rLuhn_v, panCheck_v, rCheck_v, panCd_v, rCd_v, ↓sA_usd, ↓sA_ust, soft_usd, soft_ust, cnvN_pu, cnvN_up, eqS_pp, isPrefix_v, rMake_v, panIndex_v, rIndex_v, panMask_v, rMask_v, panWithin_v, rWithin_v, panDgAt_v, rDgAt_v, rGroup_v, bs_size]
  obtain ⟨b, E, hb, hEq, hE0⟩ : ∃ b E, b = ν 0 ∧ E = [(b, .cells #[.pointer none, .slice none 0 0] 43)] ∧ BldA E b [] := ⟨_, _, rfl, rfl, BldA.new _⟩
  rw [← hb, ← hEq]
  clear hEq hb
  obtain ⟨e, k, dn, acc, he, ha, h3, hk, hle, hE⟩ : ∃ (e : Nat) (k dn acc : List UInt8), e = 0 ∧ l = dn ++ k ∧ dn.length = e ∧ grpL 0 l = acc ++ grpL e k ∧ acc.length ≤ 2 * e ∧ BldA E b acc := ⟨0, l, [], [], rfl, rfl, rfl, rfl, by simp, hE0⟩
  clear hE0
  rw [show (7, some (Value.int .i64 0)) = (7, some (Value.int .i64 (e : Int))) by rw [he]; rfl]
  clear he nuE fr
  induction k generalizing e dn acc E with
  | nil =>
    obtain ⟨lt, hd2, hle, dc⟩ := at_nil ha h3
    have hm : grpL 0 l = acc := by rw [hk]; simp [grpL]
    refine LoopA.intro (by kernel_rfl) ?_
    intro ν fr; have nuE := fr.nu
    simp (maxDischargeDepth := 16) only [argE_nil, argE_cons, ↓vmD, vmV, vmStd, Nat.reduceMul, ↓reduceIte, Nat.reduceAdd, Nat.reduceSub, Nat.reduceEqDiff, Nat.reduceLT, Nat.reduceLeDiff, reduceCtorEq, Int.reduceToNat, Int.reduceLT, Int.reduceLE, Int.reduceEq, Int.reduceNeg, Int.reduceBEq, Int.reduceBNe, String.reduceEq, forall_const, ↓vmDA, vmVA, ↓vmQA, vmR, vmRA, ↓vmSA, vmSV, tyS, nuE, areDigits_v, panSum_v, rdigits_v, rsum_v, panLuhn_v, rLuhn_v, panCheck_v, rCheck_v, panCd_v, rCd_v, ↓sA_usd, ↓sA_ust, soft_usd, soft_ust, cnvN_pu, cnvN_up, eqS_pp, isPrefix_v, rMake_v, panIndex_v, rIndex_v, panMask_v, rMask_v, panWithin_v, rWithin_v, panDgAt_v, rDgAt_v, rGroup_v, lt]
    refine CallA.use (bldStr_h E b acc hE (by omega)) (SubA.refl _) (fun v D h => h.2) [] (SubA.nil _) (dis_nil _) ?_
    rintro v D ⟨rfl, _⟩ _
    refine ⟨[], SubA.nil _, ?_⟩
    intro ν fr; have nuE := fr.nu
    simp (maxDischargeDepth := 16) only [argE_nil, argE_cons, ↓vmD, vmV, vmStd, Nat.reduceMul, ↓reduceIte, Nat.reduceAdd, Nat.reduceSub, Nat.reduceEqDiff, Nat.reduceLT, Nat.reduceLeDiff, reduceCtorEq, Int.reduceToNat, Int.reduceLT, Int.reduceLE, Int.reduceEq, Int.reduceNeg, Int.reduceBEq, Int.reduceBNe, String.reduceEq, forall_const, ↓vmDA, vmVA, ↓vmQA, vmR, vmRA, ↓vmSA, vmSV, tyS, nuE, areDigits_v, panSum_v, rdigits_v, rsum_v, panLuhn_v, rLuhn_v, panCheck_v, rCheck_v, panCd_v, rCd_v, ↓sA_usd, ↓sA_ust, soft_usd, soft_ust, cnvN_pu, cnvN_up, eqS_pp, isPrefix_v, rMake_v, panIndex_v, rIndex_v, panMask_v, rMask_v, panWithin_v, rWithin_v, panDgAt_v, rDgAt_v, rGroup_v, hm]
  | cons c k ih =>
    obtain ⟨lt, we, hc, hle2, dc, ha', h3', hlen⟩ := at_cons ha h3 (by omega)
    have m4 : (e : Int).tmod 4 = ((e % 4 : Nat) : Int) := by rw [Int.tmod_eq_emod_of_nonneg (by omega)]; omega
    refine LoopA.intro (by kernel_rfl) ?_
    intro ν fr; have nuE := fr.nu
    by_cases h4 : 0 < e ∧ e % 4 = 0
    · have q0 : ((0 : Int) < (e : Int)) = True := eq_true (by omega)
      simp (maxDischargeDepth := 16) only [argE_nil, argE_cons, ↓vmD, vmV, vmStd, Nat.reduceMul, ↓reduceIte, Nat.reduceAdd, Nat.reduceSub, Nat.reduceEqDiff, Nat.reduceLT, Nat.reduceLeDiff, reduceCtorEq, Int.reduceToNat, Int.reduceLT, Int.reduceLE, Int.reduceEq, Int.reduceNeg, Int.reduceBEq, Int.reduceBNe, String.reduceEq, forall_const, ↓vmDA, vmVA, ↓vmQA, vmR, vmRA, ↓vmSA, vmSV, tyS, nuE, areDigits_v, panSum_v, rdigits_v, rsum_v, panLuhn_v, rLuhn_v, panCheck_v, rCheck_v, panCd_v, rCd_v, ↓sA_usd, ↓sA_ust, soft_usd, soft_ust, cnvN_pu, cnvN_up, eqS_pp, isPrefix_v, rMake_v, panIndex_v, rIndex_v, panMask_v, rMask_v, panWithin_v, rWithin_v, panDgAt_v, rDgAt_v, rGroup_v, lt, q0, m4, mod_beq, h4.2]
      refine BldA.use (bldWB_h E b acc 32 hE (by omega)) (SubA.refl _) (SubA.nil _) (dis_nil _) ?_
      intro E2 hE2 _
      rw [List.append_nil]
      intro ν fr; have nuE := fr.nu
      simp (maxDischargeDepth := 16) only [argE_nil, argE_cons, ↓vmD, vmV, vmStd, Nat.reduceMul, ↓reduceIte, Nat.reduceAdd, Nat.reduceSub, Nat.reduceEqDiff, Nat.reduceLT, Nat.reduceLeDiff, reduceCtorEq, Int.reduceToNat, Int.reduceLT, Int.reduceLE, Int.reduceEq, Int.reduceNeg, Int.reduceBEq, Int.reduceBNe, String.reduceEq, forall_const, ↓vmDA, vmVA, ↓vmQA, vmR, vmRA, ↓vmSA, vmSV, tyS, nuE, areDigits_v, panSum_v, rdigits_v, rsum_v, panLuhn_v, rLuhn_v, panCheck_v, rCheck_v, panCd_v, rCd_v, ↓sA_usd, ↓sA_ust, soft_usd, soft_ust, cnvN_pu, cnvN_up, eqS_pp, isPrefix_v, rMake_v, panIndex_v, rIndex_v, panMask_v, rMask_v, panWithin_v, rWithin_v, panDgAt_v, rDgAt_v, rGroup_v, bs_at, hc]
      refine BldA.use (bldWB_h E2 b _ c hE2 (by simp; omega)) (SubA.refl _) (SubA.nil _) (dis_nil _) ?_
      intro E3 hE3 _
      rw [List.append_nil]
      intro ν fr; have nuE := fr.nu
      simp (maxDischargeDepth := 16) only [argE_nil, argE_cons, ↓vmD, vmV, vmStd, Nat.reduceMul, ↓reduceIte, Nat.reduceAdd, Nat.reduceSub, Nat.reduceEqDiff, Nat.reduceLT, Nat.reduceLeDiff, reduceCtorEq, Int.reduceToNat, Int.reduceLT, Int.reduceLE, Int.reduceEq, Int.reduceNeg, Int.reduceBEq, Int.reduceBNe, String.reduceEq, forall_const, ↓vmDA, vmVA, ↓vmQA, vmR, vmRA, ↓vmSA, vmSV, tyS, nuE, areDigits_v, panSum_v, rdigits_v, rsum_v, panLuhn_v, rLuhn_v, panCheck_v, rCheck_v, panCd_v, rCd_v, ↓sA_usd, ↓sA_ust, soft_usd, soft_ust, cnvN_pu, cnvN_up, eqS_pp, isPrefix_v, rMake_v, panIndex_v, rIndex_v, panMask_v, rMask_v, panWithin_v, rWithin_v, panDgAt_v, rDgAt_v, rGroup_v, we]
      exact LoopA.weak (ih (e := e + 1) (dn := dn ++ [c]) (acc := acc ++ [32] ++ [c]) (E := E3) (ha := ha') (h3 := h3') (hk := by rw [hk]; simp [grpL, h4]) (hle := by simp; omega) (hE := hE3)) (by simp only [subE, get_cons, Nat.reduceEqDiff, ↓reduceIte, reduceCtorEq, Nat.reduceAdd, and_self, and_true]) (SubA.refl _)
    · have h4' : ¬ (0 < e ∧ e % 4 = 0) := h4
      by_cases h0 : 0 < e
      · have q0 : ((0 : Int) < (e : Int)) = True := eq_true (by omega)
        have h5 : ¬ e % 4 = 0 := fun h => h4 ⟨h0, h⟩
        simp (maxDischargeDepth := 16) only [argE_nil, argE_cons, ↓vmD, vmV, vmStd, Nat.reduceMul, ↓reduceIte, Nat.reduceAdd, Nat.reduceSub, Nat.reduceEqDiff, Nat.reduceLT, Nat.reduceLeDiff, reduceCtorEq, Int.reduceToNat, Int.reduceLT, Int.reduceLE, Int.reduceEq, Int.reduceNeg, Int.reduceBEq, Int.reduceBNe, String.reduceEq, forall_const, ↓vmDA, vmVA, ↓vmQA, vmR, vmRA, ↓vmSA, vmSV, tyS, nuE, areDigits_v, panSum_v, rdigits_v, rsum_v, panLuhn_v, rLuhn_v, panCheck_v, rCheck_v, panCd_v, rCd_v, ↓sA_usd, ↓sA_ust, soft_usd, soft_ust, cnvN_pu, cnvN_up, eqS_pp, isPrefix_v, rMake_v, panIndex_v, rIndex_v, panMask_v, rMask_v, panWithin_v, rWithin_v, panDgAt_v, rDgAt_v, rGroup_v, lt, q0, m4, mod_beq, h5, bs_at, hc]
        refine BldA.use (bldWB_h E b acc c hE (by omega)) (SubA.refl _) (SubA.nil _) (dis_nil _) ?_
        intro E3 hE3 _
        rw [List.append_nil]
        intro ν fr; have nuE := fr.nu
        simp (maxDischargeDepth := 16) only [argE_nil, argE_cons, ↓vmD, vmV, vmStd, Nat.reduceMul, ↓reduceIte, Nat.reduceAdd, Nat.reduceSub, Nat.reduceEqDiff, Nat.reduceLT, Nat.reduceLeDiff, reduceCtorEq, Int.reduceToNat, Int.reduceLT, Int.reduceLE, Int.reduceEq, Int.reduceNeg, Int.reduceBEq, Int.reduceBNe, String.reduceEq, forall_const, ↓vmDA, vmVA, ↓vmQA, vmR, vmRA, ↓vmSA, vmSV, tyS, nuE, areDigits_v, panSum_v, rdigits_v, rsum_v, panLuhn_v, rLuhn_v, panCheck_v, rCheck_v, panCd_v, rCd_v, ↓sA_usd, ↓sA_ust, soft_usd, soft_ust, cnvN_pu, cnvN_up, eqS_pp, isPrefix_v, rMake_v, panIndex_v, rIndex_v, panMask_v, rMask_v, panWithin_v, rWithin_v, panDgAt_v, rDgAt_v, rGroup_v, we]
        exact LoopA.weak (ih (e := e + 1) (dn := dn ++ [c]) (acc := acc ++ [c]) (E := E3) (ha := ha') (h3 := h3') (hk := by rw [hk]; simp [grpL, h5]) (hle := by simp; omega) (hE := hE3)) (by simp only [subE, get_cons, Nat.reduceEqDiff, ↓reduceIte, reduceCtorEq, Nat.reduceAdd, and_self, and_true]) (SubA.refl _)
      · have q0 : ((0 : Int) < (e : Int)) = False := eq_false (by omega)
        simp (maxDischargeDepth := 16) only [argE_nil, argE_cons, ↓vmD, vmV, vmStd, Nat.reduceMul, ↓reduceIte, Nat.reduceAdd, Nat.reduceSub, Nat.reduceEqDiff, Nat.reduceLT, Nat.reduceLeDiff, reduceCtorEq, Int.reduceToNat, Int.reduceLT, Int.reduceLE, Int.reduceEq, Int.reduceNeg, Int.reduceBEq, Int.reduceBNe, String.reduceEq, forall_const, ↓vmDA, vmVA, ↓vmQA, vmR, vmRA, ↓vmSA, vmSV, tyS, nuE, areDigits_v, panSum_v, rdigits_v, rsum_v, panLuhn_v, rLuhn_v, panCheck_v, rCheck_v, panCd_v, rCd_v, ↓sA_usd, ↓sA_ust, soft_usd, soft_ust, cnvN_pu, cnvN_up, eqS_pp, isPrefix_v, rMake_v, panIndex_v, rIndex_v, panMask_v, rMask_v, panWithin_v, rWithin_v, panDgAt_v, rDgAt_v, rGroup_v, lt, q0, bs_at, hc]
        refine BldA.use (bldWB_h E b acc c hE (by omega)) (SubA.refl _) (SubA.nil _) (dis_nil _) ?_
        intro E3 hE3 _
        rw [List.append_nil]
        intro ν fr; have nuE := fr.nu
        simp (maxDischargeDepth := 16) only [argE_nil, argE_cons, ↓vmD, vmV, vmStd, Nat.reduceMul, ↓reduceIte, Nat.reduceAdd, Nat.reduceSub, Nat.reduceEqDiff, Nat.reduceLT, Nat.reduceLeDiff, reduceCtorEq, Int.reduceToNat, Int.reduceLT, Int.reduceLE, Int.reduceEq, Int.reduceNeg, Int.reduceBEq, Int.reduceBNe, String.reduceEq, forall_const, ↓vmDA, vmVA, ↓vmQA, vmR, vmRA, ↓vmSA, vmSV, tyS, nuE, areDigits_v, panSum_v, rdigits_v, rsum_v, panLuhn_v, rLuhn_v, panCheck_v, rCheck_v, panCd_v, rCd_v, ↓sA_usd, ↓sA_ust, soft_usd, soft_ust, cnvN_pu, cnvN_up, eqS_pp, isPrefix_v, rMake_v, panIndex_v, rIndex_v, panMask_v, rMask_v, panWithin_v, rWithin_v, panDgAt_v, rDgAt_v, rGroup_v, we]
        exact LoopA.weak (ih (e := e + 1) (dn := dn ++ [c]) (acc := acc ++ [c]) (E := E3) (ha := ha') (h3 := h3') (hk := by rw [hk]; simp [grpL, h0]) (hle := by simp; omega) (hE := hE3)) (by simp only [subE, get_cons, Nat.reduceEqDiff, ↓reduceIte, reduceCtorEq, Nat.reduceAdd, and_self, and_true]) (SubA.refl _)
theorem panGroup_v (l : List UInt8) (hl : l.length ≤ 100000) (A_ : AH) : valA Tryd.prog 19 #[.string (bs l)] A_ = some (.string (bs (grpL 0 l))) := valA_eq (pureA_of (by kernel_rfl) (panGroup_h l hl))
/-! ### Stripping -/
theorem dgI_next {l dn k : List UInt8} {c : UInt8} {e : Nat} (ha : l = (dn ++ [c]) ++ k) (h1 : (dn ++ [c]).length = e + 1) : dgI l ((e + 1 : Nat) : Int) = hdB k := by
  cases k with
  | nil => exact dgI_end (by rw [ha]; simp only [List.append_nil]; omega)
  | cons x k => exact dgI_some (by rw [ha, List.getElem?_append_right (by omega), h1]; simp)
theorem u8_bne (c : UInt8) (n : Nat) (hn : n < 256) : ((c.toNat : Int) != (n : Int)) = !decide (c = UInt8.ofNat n) := by
  by_cases h : c = UInt8.ofNat n
  · subst h; simp; omega
  · have : c.toNat ≠ n := fun e => h (by rw [← e]; simp)
    simp [h]
    omega
theorem strV_none {l : List UInt8} (h : strL false l = none) : strV l = .tuple #[.string (bs []), .int .i64 2] := by unfold strV; rw [h]
theorem rStrip_h (l : List UInt8) (hl : l.length ≤ 10000) : CallA Tryd.prog 28 #[.string (bs l)] [] (fun u_ _ => u_ = strV l) := by
  refine callA_of_denA ⟨Tryd.prog, 28, Tryd.f28, 51, [0, 2, 3, 4, 5, 6], [], [], _⟩ (args := [_]) Tryd.func28 rfl (by kernel_rfl) Tryd.ntmps28 (by simp) (by kernel_rfl) ?_
  intro ν fr; have nuE := fr.nu
  have ck := fun (x : List UInt8) (hx : x.length ≤ 10000) A => rCheck_v x (by omega) A
  have dg := fun i A => rDgAt_v l i (by omega) A
  simp (maxDischargeDepth := 16) only [argE_nil, argE_cons, ↓vmD, vmV, vmStd, Nat.reduceMul, ↓reduceIte, Nat.reduceAdd, Nat.reduceSub, Nat.reduceEqDiff, Nat.reduceLT, Nat.reduceLeDiff, reduceCtorEq, Int.reduceToNat, Int.reduceLT, Int.reduceLE, Int.reduceEq, Int.reduceNeg, Int.reduceBEq, Int.reduceBNe, String.reduceEq, forall_const, ↓vmDA, vmVA, ↓vmQA, vmR, vmRA, ↓vmSA, vmSV, tyS, nuE, areDigits_v, panSum_v, rdigits_v, rsum_v, panLuhn_v, rLuhn_v, panCheck_v, rCheck_v, panCd_v, rCd_v, ↓sA_usd, ↓sA_ust, soft_usd, soft_ust, cnvN_pu, cnvN_up, eqS_pp, isPrefix_v, rMake_v, panIndex_v, rIndex_v, panMask_v, rMask_v, panWithin_v, rWithin_v, panDgAt_v, rDgAt_v, rGroup_v, panGroup_v]
  obtain ⟨e, k, dn, acc, d, he, hac, ha, h3, hk, hd, hle⟩ : ∃ (e : Nat) (k dn acc : List UInt8) (d : Bool), e = 0 ∧ acc = [] ∧ l = dn ++ k ∧ dn.length = e ∧ strL false l = (strL d k).map (acc ++ ·) ∧ dgI l ((e : Int) - 1) = d ∧ acc.length ≤ e := ⟨0, l, [], [], false, rfl, rfl, rfl, rfl, by simp, dgI_neg (by omega), by simp⟩
  rw [show (5, some (Value.int .i64 0)) = (5, some (Value.int .i64 (e : Int))) by rw [he]; rfl]
  rw [show (4, some (Value.string ⟨#[]⟩)) = (4, some (Value.string (bs acc))) by rw [hac]; rfl]
  clear he hac nuE fr
  induction k generalizing e dn acc d with
  | nil =>
    obtain ⟨lt, hd2, hle2, dc⟩ := at_nil ha h3
    have hm : strL false l = some acc := by rw [hk]; simp [strL]
    have ca := fun A => ck acc (by omega) A
    refine LoopA.intro (by kernel_rfl) ?_
    intro ν fr; have nuE := fr.nu
    by_cases h0 : chk acc = 0
    · have hv : strV l = .tuple #[.string (bs acc), .int .i64 0] := by unfold strV; rw [hm]; simp [h0]
      simp (maxDischargeDepth := 16) only [argE_nil, argE_cons, ↓vmD, vmV, vmStd, Nat.reduceMul, ↓reduceIte, Nat.reduceAdd, Nat.reduceSub, Nat.reduceEqDiff, Nat.reduceLT, Nat.reduceLeDiff, reduceCtorEq, Int.reduceToNat, Int.reduceLT, Int.reduceLE, Int.reduceEq, Int.reduceNeg, Int.reduceBEq, Int.reduceBNe, String.reduceEq, forall_const, ↓vmDA, vmVA, ↓vmQA, vmR, vmRA, ↓vmSA, vmSV, tyS, nuE, areDigits_v, panSum_v, rdigits_v, rsum_v, panLuhn_v, rLuhn_v, panCheck_v, rCheck_v, panCd_v, rCd_v, ↓sA_usd, ↓sA_ust, soft_usd, soft_ust, cnvN_pu, cnvN_up, eqS_pp, isPrefix_v, rMake_v, panIndex_v, rIndex_v, panMask_v, rMask_v, panWithin_v, rWithin_v, panDgAt_v, rDgAt_v, rGroup_v, panGroup_v, bs_size, lt, ca, chk_bne, h0, hv]
    · have hv : strV l = .tuple #[.string (bs []), .int .i64 (chk acc)] := by unfold strV; rw [hm]; simp [h0]
      simp (maxDischargeDepth := 16) only [argE_nil, argE_cons, ↓vmD, vmV, vmStd, Nat.reduceMul, ↓reduceIte, Nat.reduceAdd, Nat.reduceSub, Nat.reduceEqDiff, Nat.reduceLT, Nat.reduceLeDiff, reduceCtorEq, Int.reduceToNat, Int.reduceLT, Int.reduceLE, Int.reduceEq, Int.reduceNeg, Int.reduceBEq, Int.reduceBNe, String.reduceEq, forall_const, ↓vmDA, vmVA, ↓vmQA, vmR, vmRA, ↓vmSA, vmSV, tyS, nuE, areDigits_v, panSum_v, rdigits_v, rsum_v, panLuhn_v, rLuhn_v, panCheck_v, rCheck_v, panCd_v, rCd_v, ↓sA_usd, ↓sA_ust, soft_usd, soft_ust, cnvN_pu, cnvN_up, eqS_pp, isPrefix_v, rMake_v, panIndex_v, rIndex_v, panMask_v, rMask_v, panWithin_v, rWithin_v, panDgAt_v, rDgAt_v, rGroup_v, panGroup_v, bs_size, lt, ca, chk_bne, h0, hv, bs_nil]
  | cons c k ih =>
    obtain ⟨lt, we, hc, hle2, dc, ha', h3', hlen⟩ := at_cons ha h3 (by omega)
    have s1 : acc.length + 1 ≤ 9223372036854775807 := by omega
    have ex := sl_one ha' h3' h3
    have b1 : ((e : Int) ≤ ((e + 1 : Nat) : Int)) = True := eq_true (by omega)
    have b2 : (((e + 1 : Nat) : Int) ≤ (l.length : Int)) = True := eq_true (by omega)
    have wm : IntKind.i64.wrap ((e : Int) - 1) = (e : Int) - 1 := w_i64 (by omega) (by omega)
    have dc0 := dgI_some hc
    have dn1 := dgI_next ha' h3'
    have dm : dgI l (((e + 1 : Nat) : Int) - 1) = digB c := by rw [show ((e + 1 : Nat) : Int) - 1 = (e : Int) by omega]; exact dc0
    have n32 : ((c.toNat : Int) != 32) = !decide (c = 32) := u8_bne c 32 (by omega)
    have d45 : decide ((45 : UInt8) = 32) = false := rfl
    have n45 : ((c.toNat : Int) != 45) = !decide (c = 45) := u8_bne c 45 (by omega)
    refine LoopA.intro (by kernel_rfl) ?_
    intro ν fr; have nuE := fr.nu
    cases hb : digB c with
    | true =>
      simp (maxDischargeDepth := 16) only [argE_nil, argE_cons, ↓vmD, vmV, vmStd, Nat.reduceMul, ↓reduceIte, Nat.reduceAdd, Nat.reduceSub, Nat.reduceEqDiff, Nat.reduceLT, Nat.reduceLeDiff, reduceCtorEq, Int.reduceToNat, Int.reduceLT, Int.reduceLE, Int.reduceEq, Int.reduceNeg, Int.reduceBEq, Int.reduceBNe, String.reduceEq, forall_const, ↓vmDA, vmVA, ↓vmQA, vmR, vmRA, ↓vmSA, vmSV, tyS, nuE, areDigits_v, panSum_v, rdigits_v, rsum_v, panLuhn_v, rLuhn_v, panCheck_v, rCheck_v, panCd_v, rCd_v, ↓sA_usd, ↓sA_ust, soft_usd, soft_ust, cnvN_pu, cnvN_up, eqS_pp, isPrefix_v, rMake_v, panIndex_v, rIndex_v, panMask_v, rMask_v, panWithin_v, rWithin_v, panDgAt_v, rDgAt_v, rGroup_v, panGroup_v, bs_size, lt, dg, dc0, hb, we, b1, b2, bs_ext, ex, bs_app, List.length_singleton, s1]
      exact LoopA.weak (ih (e + 1) (dn ++ [c]) (acc ++ [c]) true ha' h3' (by rw [hk]; simp only [strL, hb, if_true, Option.map_map]; congr 1; funext x; simp) (by rw [dm, hb]) (by simp; omega)) (by simp only [subE, get_cons, Nat.reduceEqDiff, ↓reduceIte, reduceCtorEq, Nat.reduceAdd, and_self, and_true]) (SubA.refl _)
    | false =>
      by_cases hm : c = 32 ∨ c = 45
      · cases d with
        | false =>
          have hv := strV_none (l := l) (by rw [hk]; simp [strL, hb])
          rcases hm with rfl | rfl
          · simp (maxDischargeDepth := 16) only [argE_nil, argE_cons, ↓vmD, vmV, vmStd, Nat.reduceMul, ↓reduceIte, Nat.reduceAdd, Nat.reduceSub, Nat.reduceEqDiff, Nat.reduceLT, Nat.reduceLeDiff, reduceCtorEq, Int.reduceToNat, Int.reduceLT, Int.reduceLE, Int.reduceEq, Int.reduceNeg, Int.reduceBEq, Int.reduceBNe, String.reduceEq, forall_const, ↓vmDA, vmVA, ↓vmQA, vmR, vmRA, ↓vmSA, vmSV, tyS, nuE, areDigits_v, panSum_v, rdigits_v, rsum_v, panLuhn_v, rLuhn_v, panCheck_v, rCheck_v, panCd_v, rCd_v, ↓sA_usd, ↓sA_ust, soft_usd, soft_ust, cnvN_pu, cnvN_up, eqS_pp, isPrefix_v, rMake_v, panIndex_v, rIndex_v, panMask_v, rMask_v, panWithin_v, rWithin_v, panDgAt_v, rDgAt_v, rGroup_v, panGroup_v, bs_size, lt, dg, dc0, hb, bs_at, hc, n32, n45, d45, wm, hd, hv, bs_nil, decide_true]
          · simp (maxDischargeDepth := 16) only [argE_nil, argE_cons, ↓vmD, vmV, vmStd, Nat.reduceMul, ↓reduceIte, Nat.reduceAdd, Nat.reduceSub, Nat.reduceEqDiff, Nat.reduceLT, Nat.reduceLeDiff, reduceCtorEq, Int.reduceToNat, Int.reduceLT, Int.reduceLE, Int.reduceEq, Int.reduceNeg, Int.reduceBEq, Int.reduceBNe, String.reduceEq, forall_const, ↓vmDA, vmVA, ↓vmQA, vmR, vmRA, ↓vmSA, vmSV, tyS, nuE, areDigits_v, panSum_v, rdigits_v, rsum_v, panLuhn_v, rLuhn_v, panCheck_v, rCheck_v, panCd_v, rCd_v, ↓sA_usd, ↓sA_ust, soft_usd, soft_ust, cnvN_pu, cnvN_up, eqS_pp, isPrefix_v, rMake_v, panIndex_v, rIndex_v, panMask_v, rMask_v, panWithin_v, rWithin_v, panDgAt_v, rDgAt_v, rGroup_v, panGroup_v, bs_size, lt, dg, dc0, hb, bs_at, hc, n32, n45, d45, wm, hd, hv, bs_nil, decide_true]
        | true =>
          cases hn : dgI l ((e + 1 : Nat) : Int) with
          | false =>
            rw [hn] at dn1
            have hv := strV_none (l := l) (by rw [hk]; simp [strL, hb, ← dn1])
            rcases hm with rfl | rfl
            · simp (maxDischargeDepth := 16) only [argE_nil, argE_cons, ↓vmD, vmV, vmStd, Nat.reduceMul, ↓reduceIte, Nat.reduceAdd, Nat.reduceSub, Nat.reduceEqDiff, Nat.reduceLT, Nat.reduceLeDiff, reduceCtorEq, Int.reduceToNat, Int.reduceLT, Int.reduceLE, Int.reduceEq, Int.reduceNeg, Int.reduceBEq, Int.reduceBNe, String.reduceEq, forall_const, ↓vmDA, vmVA, ↓vmQA, vmR, vmRA, ↓vmSA, vmSV, tyS, nuE, areDigits_v, panSum_v, rdigits_v, rsum_v, panLuhn_v, rLuhn_v, panCheck_v, rCheck_v, panCd_v, rCd_v, ↓sA_usd, ↓sA_ust, soft_usd, soft_ust, cnvN_pu, cnvN_up, eqS_pp, isPrefix_v, rMake_v, panIndex_v, rIndex_v, panMask_v, rMask_v, panWithin_v, rWithin_v, panDgAt_v, rDgAt_v, rGroup_v, panGroup_v, bs_size, lt, dg, dc0, hb, bs_at, hc, n32, n45, d45, wm, we, hd, hn, hv, bs_nil, decide_true]
            · simp (maxDischargeDepth := 16) only [argE_nil, argE_cons, ↓vmD, vmV, vmStd, Nat.reduceMul, ↓reduceIte, Nat.reduceAdd, Nat.reduceSub, Nat.reduceEqDiff, Nat.reduceLT, Nat.reduceLeDiff, reduceCtorEq, Int.reduceToNat, Int.reduceLT, Int.reduceLE, Int.reduceEq, Int.reduceNeg, Int.reduceBEq, Int.reduceBNe, String.reduceEq, forall_const, ↓vmDA, vmVA, ↓vmQA, vmR, vmRA, ↓vmSA, vmSV, tyS, nuE, areDigits_v, panSum_v, rdigits_v, rsum_v, panLuhn_v, rLuhn_v, panCheck_v, rCheck_v, panCd_v, rCd_v, ↓sA_usd, ↓sA_ust, soft_usd, soft_ust, cnvN_pu, cnvN_up, eqS_pp, isPrefix_v, rMake_v, panIndex_v, rIndex_v, panMask_v, rMask_v, panWithin_v, rWithin_v, panDgAt_v, rDgAt_v, rGroup_v, panGroup_v, bs_size, lt, dg, dc0, hb, bs_at, hc, n32, n45, d45, wm, we, hd, hn, hv, bs_nil, decide_true]
          | true =>
            rw [hn] at dn1
            have hk2 : strL false l = (strL false k).map (acc ++ ·) := by rw [hk]; simp only [strL, hb]; rw [if_neg (by simp), if_pos ⟨hm, trivial, dn1.symm⟩]
            rcases hm with rfl | rfl
            · simp (maxDischargeDepth := 16) only [argE_nil, argE_cons, ↓vmD, vmV, vmStd, Nat.reduceMul, ↓reduceIte, Nat.reduceAdd, Nat.reduceSub, Nat.reduceEqDiff, Nat.reduceLT, Nat.reduceLeDiff, reduceCtorEq, Int.reduceToNat, Int.reduceLT, Int.reduceLE, Int.reduceEq, Int.reduceNeg, Int.reduceBEq, Int.reduceBNe, String.reduceEq, forall_const, ↓vmDA, vmVA, ↓vmQA, vmR, vmRA, ↓vmSA, vmSV, tyS, nuE, areDigits_v, panSum_v, rdigits_v, rsum_v, panLuhn_v, rLuhn_v, panCheck_v, rCheck_v, panCd_v, rCd_v, ↓sA_usd, ↓sA_ust, soft_usd, soft_ust, cnvN_pu, cnvN_up, eqS_pp, isPrefix_v, rMake_v, panIndex_v, rIndex_v, panMask_v, rMask_v, panWithin_v, rWithin_v, panDgAt_v, rDgAt_v, rGroup_v, panGroup_v, bs_size, lt, dg, dc0, hb, bs_at, hc, n32, n45, d45, wm, we, hd, hn, decide_true]
              exact LoopA.weak (ih (e + 1) (dn ++ [32]) acc false ha' h3' hk2 (by rw [dm, hb]) (by omega)) (by simp only [subE, get_cons, Nat.reduceEqDiff, ↓reduceIte, reduceCtorEq, Nat.reduceAdd, and_self, and_true]) (SubA.refl _)
            · simp (maxDischargeDepth := 16) only [argE_nil, argE_cons, ↓vmD, vmV, vmStd, Nat.reduceMul, ↓reduceIte, Nat.reduceAdd, Nat.reduceSub, Nat.reduceEqDiff, Nat.reduceLT, Nat.reduceLeDiff, reduceCtorEq, Int.reduceToNat, Int.reduceLT, Int.reduceLE, Int.reduceEq, Int.reduceNeg, Int.reduceBEq, Int.reduceBNe, String.reduceEq, forall_const, ↓vmDA, vmVA, ↓vmQA, vmR, vmRA, ↓vmSA, vmSV, tyS, nuE, areDigits_v, panSum_v, rdigits_v, rsum_v, panLuhn_v, rLuhn_v, panCheck_v, rCheck_v, panCd_v, rCd_v, ↓sA_usd, ↓sA_ust, soft_usd, soft_ust, cnvN_pu, cnvN_up, eqS_pp, isPrefix_v, rMake_v, panIndex_v, rIndex_v, panMask_v, rMask_v, panWithin_v, rWithin_v, panDgAt_v, rDgAt_v, rGroup_v, panGroup_v, bs_size, lt, dg, dc0, hb, bs_at, hc, n32, n45, d45, wm, we, hd, hn, decide_true]
              exact LoopA.weak (ih (e + 1) (dn ++ [45]) acc false ha' h3' hk2 (by rw [dm, hb]) (by omega)) (by simp only [subE, get_cons, Nat.reduceEqDiff, ↓reduceIte, reduceCtorEq, Nat.reduceAdd, and_self, and_true]) (SubA.refl _)
      · have h1 : ¬ c = 32 := fun h => hm (.inl h)
        have h2 : ¬ c = 45 := fun h => hm (.inr h)
        have hv := strV_none (l := l) (by rw [hk]; simp [strL, hb, h1, h2])
        simp (maxDischargeDepth := 16) only [argE_nil, argE_cons, ↓vmD, vmV, vmStd, Nat.reduceMul, ↓reduceIte, Nat.reduceAdd, Nat.reduceSub, Nat.reduceEqDiff, Nat.reduceLT, Nat.reduceLeDiff, reduceCtorEq, Int.reduceToNat, Int.reduceLT, Int.reduceLE, Int.reduceEq, Int.reduceNeg, Int.reduceBEq, Int.reduceBNe, String.reduceEq, forall_const, ↓vmDA, vmVA, ↓vmQA, vmR, vmRA, ↓vmSA, vmSV, tyS, nuE, areDigits_v, panSum_v, rdigits_v, rsum_v, panLuhn_v, rLuhn_v, panCheck_v, rCheck_v, panCd_v, rCd_v, ↓sA_usd, ↓sA_ust, soft_usd, soft_ust, cnvN_pu, cnvN_up, eqS_pp, isPrefix_v, rMake_v, panIndex_v, rIndex_v, panMask_v, rMask_v, panWithin_v, rWithin_v, panDgAt_v, rDgAt_v, rGroup_v, panGroup_v, bs_size, lt, dg, dc0, hb, bs_at, hc, n32, n45, h1, h2, hv, bs_nil]
theorem rStrip_v (l : List UInt8) (hl : l.length ≤ 10000) (A_ : AH) : valA Tryd.prog 28 #[.string (bs l)] A_ = some (strV l) := valA_eq (pureA_of (by kernel_rfl) (rStrip_h l hl))
end Go.Proofs.YtnpjgimkllebhaaDoor
