/-
Card numbers: the examples of the chapter, and the laws of checks, makes, finds and strips.
Conditions: none.
-/
import Derived.Test.YtnpjgimkllebhaaDoorPnT
namespace Go.Proofs.YtnpjgimkllebhaaDoor
open Go.Vm
set_option linter.unusedSimpArgs false
set_option linter.unusedVariables false
set_option maxHeartbeats 2000000
set_option maxRecDepth 20000
theorem awake04_h (A : AH) (hT : TabA A) : CallA Tryd.prog 10 #[] A (fun u_ A_ => u_ = .bool true ∧ SubA A A_) := by
  refine callA_of_denA ⟨Tryd.prog, 10, Tryd.f10, 90, [0, 1, 2, 3, 4, 5, 6, 7, 8, 10], [], [], _⟩ (args := []) Tryd.func10 rfl (by kernel_rfl) Tryd.ntmps10 (by simp) (by kernel_rfl) ?_
  intro ν fr; have nuE := fr.nu
  have f1 := show valA Tryd.prog 11 #[.string ⟨#[55, 57, 57, 50, 55, 51, 57, 56, 55, 49]⟩] A = some (.tuple #[.int .u8 51, .int .i64 0]) from (panCd_v [55, 57, 57, 50, 55, 51, 57, 56, 55, 49] (by decide) A).trans (congrArg some (by kernel_rfl))
  have f2 := show valA Tryd.prog 21 #[.string ⟨#[52, 48, 48, 48, 48, 48]⟩, .int .i64 7, .int .i64 16] A = some (.tuple #[.string ⟨#[52, 48, 48, 48, 48, 48, 48, 48, 48, 48, 48, 48, 48, 48, 55, 55]⟩, .int .i64 0]) from (panMake_v A hT [52, 48, 48, 48, 48, 48] (by decide) 7 16 (by decide) (by decide)).trans (congrArg some (by kernel_rfl))
  have f3 := show valA Tryd.prog 23 #[.string ⟨#[52, 48, 48, 48, 48, 48]⟩, .string ⟨#[52, 48, 48, 48, 48, 48, 48, 48, 48, 48, 48, 48, 48, 48, 55, 55]⟩] A = some (.tuple #[.int .i64 7, .bool true]) from (panIndex_v [52, 48, 48, 48, 48, 48] [52, 48, 48, 48, 48, 48, 48, 48, 48, 48, 48, 48, 48, 48, 55, 55] (by decide) (by decide) A).trans (congrArg some (by kernel_rfl))
  have f4 := show valA Tryd.prog 27 #[.string ⟨#[52, 48, 48, 48, 45, 48, 48, 48, 48, 32, 48, 48, 48, 48, 32, 48, 48, 55, 55]⟩] A = some (.tuple #[.string ⟨#[52, 48, 48, 48, 48, 48, 48, 48, 48, 48, 48, 48, 48, 48, 55, 55]⟩, .int .i64 0]) from (panStrip_v [52, 48, 48, 48, 45, 48, 48, 48, 48, 32, 48, 48, 48, 48, 32, 48, 48, 55, 55] (by decide) A).trans (congrArg some (by kernel_rfl))
  have f5 := show valA Tryd.prog 27 #[.string ⟨#[52, 48, 48, 48, 45, 45, 48, 48, 48, 48]⟩] A = some (.tuple #[.string ⟨#[]⟩, .int .i64 2]) from (panStrip_v [52, 48, 48, 48, 45, 45, 48, 48, 48, 48] (by decide) A).trans (congrArg some (by kernel_rfl))
  have f6 := show valA Tryd.prog 13 #[.string ⟨#[55, 57, 57, 50, 55, 51, 57, 56, 55, 49, 51]⟩] A = some (.bool true) from (panLuhn_v [55, 57, 57, 50, 55, 51, 57, 56, 55, 49, 51] (by decide) A).trans (congrArg some (by kernel_rfl))
  have f7 := show valA Tryd.prog 13 #[.string ⟨#[55, 57, 57, 50, 55, 51, 57, 56, 55, 49, 48]⟩] A = some (.bool false) from (panLuhn_v [55, 57, 57, 50, 55, 51, 57, 56, 55, 49, 48] (by decide) A).trans (congrArg some (by kernel_rfl))
  have f8 := show valA Tryd.prog 15 #[.string ⟨#[52, 49, 49, 49, 49, 49, 49, 49, 49, 49, 49, 49, 49, 49, 49, 50]⟩] A = some (.int .i64 9) from (panCheck_v [52, 49, 49, 49, 49, 49, 49, 49, 49, 49, 49, 49, 49, 49, 49, 50] (by decide) A).trans (congrArg some (by kernel_rfl))
  have f9 := show valA Tryd.prog 17 #[.string ⟨#[52, 48, 48, 48, 48, 48, 48, 48, 48, 48, 48, 48, 48, 48, 55, 55]⟩] A = some (.string ⟨#[52, 48, 48, 48, 48, 48, 42, 42, 42, 42, 42, 42, 48, 48, 55, 55]⟩) from (panMask_v [52, 48, 48, 48, 48, 48, 48, 48, 48, 48, 48, 48, 48, 48, 55, 55] (by decide) A).trans (congrArg some (by kernel_rfl))
  have f10 := show valA Tryd.prog 19 #[.string ⟨#[52, 48, 48, 48, 48, 48, 48, 48, 48, 48, 48, 48, 48, 48, 55, 55]⟩] A = some (.string ⟨#[52, 48, 48, 48, 32, 48, 48, 48, 48, 32, 48, 48, 48, 48, 32, 48, 48, 55, 55]⟩) from (panGroup_v [52, 48, 48, 48, 48, 48, 48, 48, 48, 48, 48, 48, 48, 48, 55, 55] (by decide) A).trans (congrArg some (by kernel_rfl))
  have f11 := show valA Tryd.prog 25 #[.string ⟨#[52, 48, 48, 48, 48, 48, 48, 48, 48, 48, 48, 48, 48, 48, 55, 55]⟩, .string ⟨#[51, 57, 57, 57, 57, 57]⟩, .string ⟨#[52, 48, 48, 48, 48, 48]⟩] A = some (.bool true) from (panWithin_v [52, 48, 48, 48, 48, 48, 48, 48, 48, 48, 48, 48, 48, 48, 55, 55] [51, 57, 57, 57, 57, 57] [52, 48, 48, 48, 48, 48] (by decide) (by decide) (by decide) A).trans (congrArg some (by kernel_rfl))
  simp (maxDischargeDepth := 16) only [argE_nil, argE_cons, ↓vmD, vmV, vmStd, Nat.reduceMul, ↓reduceIte, Nat.reduceAdd, Nat.reduceSub, Nat.reduceEqDiff, Nat.reduceLT, Nat.reduceLeDiff, reduceCtorEq, Int.reduceToNat, Int.reduceLT, Int.reduceLE, Int.reduceEq, Int.reduceNeg, Int.reduceBEq, Int.reduceBNe, String.reduceEq, forall_const, ↓vmDA, vmVA, ↓vmQA, vmR, vmRA, ↓vmSA, vmSV, tyS, nuE, SubA.skip, SubA.refl, fr.2, areDigits_v, panSum_v, rdigits_v, rsum_v, panLuhn_v, rLuhn_v, panCheck_v, rCheck_v, panCd_v, rCd_v, ↓sA_usd, ↓sA_ust, soft_usd, soft_ust, cnvN_pu, cnvN_up, eqS_pp, isPrefix_v, rMake_v, panIndex_v, rIndex_v, panMask_v, rMask_v, panWithin_v, rWithin_v, panDgAt_v, rDgAt_v, rGroup_v, panGroup_v, rStrip_v, panStrip_v, f1, f2, f3, f4, f5, f6, f7, f8, f9, f10, f11, BEq.rfl]
theorem awake04_w (A : AH) (hT : TabA A) (B_ : AH) (hB_ : SubA A B_) : valA Tryd.prog 10 #[] B_ = some (.bool true) := valA_eq (pureA_at (by kernel_rfl) (awake04_h A hT) hB_)
theorem awake04_v (A : AH) (hT : TabA A) : valA Tryd.prog 10 #[] A = some (.bool true) := valA_eq (pureA_at (by kernel_rfl) (awake04_h A hT) (SubA.refl _))
theorem cdV_form (l : List UInt8) : ∃ a e, cdV l = .tuple #[.int .u8 a, .int .i64 e] := by
  unfold cdV
  split
  · exact ⟨_, _, rfl⟩
  split
  · exact ⟨_, _, rfl⟩
  split <;> exact ⟨_, _, rfl⟩
theorem mkV_form (p : List UInt8) (n len : Int) : ∃ s e, mkV p n len = .tuple #[.string s, .int .i64 e] := by
  unfold mkV
  split <;> exact ⟨_, _, rfl⟩
theorem idxV_form (p s : List UInt8) : ∃ n b, idxV p s = .tuple #[.int .i64 n, .bool b] := by
  unfold idxV
  split <;> exact ⟨_, _, rfl⟩
theorem strV_form (s : List UInt8) : ∃ a e, strV s = .tuple #[.string a, .int .i64 e] := by
  unfold strV
  split
  · exact ⟨_, _, rfl⟩
  · split <;> exact ⟨_, _, rfl⟩
theorem checksLaw_h (A : AH) (hT : TabA A) (l : List UInt8) : CallA Tryd.prog 3 #[.string (bs l)] A (fun u_ A_ => u_ = .bool true ∧ SubA A A_) := by
  refine callA_of_denA ⟨Tryd.prog, 3, Tryd.f3, 60, [0, 2, 3, 4, 5, 6], [], [], _⟩ (args := [_]) Tryd.func3 rfl (by kernel_rfl) Tryd.ntmps3 (by simp) (by kernel_rfl) ?_
  intro ν fr; have nuE := fr.nu
  have aw := awake04_v A hT
  by_cases h : 100 < l.length
  · have q : ((100 : Int) < (l.length : Int)) = True := eq_true (by omega)
    simp (maxDischargeDepth := 16) only [argE_nil, argE_cons, ↓vmD, vmV, vmStd, Nat.reduceMul, ↓reduceIte, Nat.reduceAdd, Nat.reduceSub, Nat.reduceEqDiff, Nat.reduceLT, Nat.reduceLeDiff, reduceCtorEq, Int.reduceToNat, Int.reduceLT, Int.reduceLE, Int.reduceEq, Int.reduceNeg, Int.reduceBEq, Int.reduceBNe, String.reduceEq, forall_const, ↓vmDA, vmVA, ↓vmQA, vmR, vmRA, ↓vmSA, vmSV, tyS, nuE, SubA.skip, SubA.refl, fr.2, areDigits_v, panSum_v, rdigits_v, rsum_v, panLuhn_v, rLuhn_v, panCheck_v, rCheck_v, panCd_v, rCd_v, ↓sA_usd, ↓sA_ust, soft_usd, soft_ust, cnvN_pu, cnvN_up, eqS_pp, isPrefix_v, rMake_v, panIndex_v, rIndex_v, panMask_v, rMask_v, panWithin_v, rWithin_v, panDgAt_v, rDgAt_v, rGroup_v, panGroup_v, rStrip_v, panStrip_v, bs_size, q, aw]
  have q : ((100 : Int) < (l.length : Int)) = False := eq_false (by omega)
  obtain ⟨a, e, hcd⟩ := cdV_form l
  have c1 := fun A => panCd_v l (by omega) A
  have c2 := fun A => rCd_v l (by omega) A
  rw [hcd] at c1 c2
  have l1 := fun A => panLuhn_v l (by omega) A
  have l2 := fun A => rLuhn_v l (by omega) A
  have k1 := fun A => panCheck_v l (by omega) A
  have k2 := fun A => rCheck_v l (by omega) A
  have m1 := fun A => panMask_v l (by omega) A
  have m2 := fun A => rMask_v l (by omega) A
  have g1 := fun A => panGroup_v l (by omega) A
  have g2 := fun A => rGroup_v l (by omega) A
  simp (maxDischargeDepth := 16) only [argE_nil, argE_cons, ↓vmD, vmV, vmStd, Nat.reduceMul, ↓reduceIte, Nat.reduceAdd, Nat.reduceSub, Nat.reduceEqDiff, Nat.reduceLT, Nat.reduceLeDiff, reduceCtorEq, Int.reduceToNat, Int.reduceLT, Int.reduceLE, Int.reduceEq, Int.reduceNeg, Int.reduceBEq, Int.reduceBNe, String.reduceEq, forall_const, ↓vmDA, vmVA, ↓vmQA, vmR, vmRA, ↓vmSA, vmSV, tyS, nuE, SubA.skip, SubA.refl, fr.2, areDigits_v, panSum_v, rdigits_v, rsum_v, panLuhn_v, rLuhn_v, panCheck_v, rCheck_v, panCd_v, rCd_v, ↓sA_usd, ↓sA_ust, soft_usd, soft_ust, cnvN_pu, cnvN_up, eqS_pp, isPrefix_v, rMake_v, panIndex_v, rIndex_v, panMask_v, rMask_v, panWithin_v, rWithin_v, panDgAt_v, rDgAt_v, rGroup_v, panGroup_v, rStrip_v, panStrip_v, bs_size, q, aw, c1, c2, l1, l2, k1, k2, m1, m2, g1, g2, BEq.rfl]
theorem checksLaw_w (A : AH) (hT : TabA A) (l : List UInt8) (B_ : AH) (hB_ : SubA A B_) : valA Tryd.prog 3 #[.string (bs l)] B_ = some (.bool true) := valA_eq (pureA_at (by kernel_rfl) (checksLaw_h A hT l) hB_)
theorem checksLaw_v (A : AH) (hT : TabA A) (l : List UInt8) : valA Tryd.prog 3 #[.string (bs l)] A = some (.bool true) := valA_eq (pureA_at (by kernel_rfl) (checksLaw_h A hT l) (SubA.refl _))
theorem makesLaw_h (A : AH) (hT : TabA A) (p : List UInt8) (n len : Int) (hn0 : -9223372036854775808 ≤ n) (hn1 : n ≤ 9223372036854775807) : CallA Tryd.prog 4 #[.string (bs p), .int .i64 n, .int .i64 len] A (fun u_ A_ => u_ = .bool true ∧ SubA A A_) := by
  refine callA_of_denA ⟨Tryd.prog, 4, Tryd.f4, 40, [0, 1, 2, 6, 7, 8, 9, 10], [], [], _⟩ (args := [_, _, _]) Tryd.func4 rfl (by kernel_rfl) Tryd.ntmps4 (by simp) (by kernel_rfl) ?_
  intro ν fr; have nuE := fr.nu
  have aw := awake04_v A hT
  by_cases h : 100 < p.length
  · have q : ((100 : Int) < (p.length : Int)) = True := eq_true (by omega)
    simp (maxDischargeDepth := 16) only [argE_nil, argE_cons, ↓vmD, vmV, vmStd, Nat.reduceMul, ↓reduceIte, Nat.reduceAdd, Nat.reduceSub, Nat.reduceEqDiff, Nat.reduceLT, Nat.reduceLeDiff, reduceCtorEq, Int.reduceToNat, Int.reduceLT, Int.reduceLE, Int.reduceEq, Int.reduceNeg, Int.reduceBEq, Int.reduceBNe, String.reduceEq, forall_const, ↓vmDA, vmVA, ↓vmQA, vmR, vmRA, ↓vmSA, vmSV, tyS, nuE, SubA.skip, SubA.refl, fr.2, areDigits_v, panSum_v, rdigits_v, rsum_v, panLuhn_v, rLuhn_v, panCheck_v, rCheck_v, panCd_v, rCd_v, ↓sA_usd, ↓sA_ust, soft_usd, soft_ust, cnvN_pu, cnvN_up, eqS_pp, isPrefix_v, rMake_v, panIndex_v, rIndex_v, panMask_v, rMask_v, panWithin_v, rWithin_v, panDgAt_v, rDgAt_v, rGroup_v, panGroup_v, rStrip_v, panStrip_v, bs_size, q, aw]
  have q : ((100 : Int) < (p.length : Int)) = False := eq_false (by omega)
  obtain ⟨s, e, hmk⟩ := mkV_form p n len
  have c1 := panMake_v A hT p (by omega) n len hn0 hn1
  have c2 := fun A => rMake_v p (by omega) n len hn1 A
  rw [hmk] at c1 c2
  simp (maxDischargeDepth := 16) only [argE_nil, argE_cons, ↓vmD, vmV, vmStd, Nat.reduceMul, ↓reduceIte, Nat.reduceAdd, Nat.reduceSub, Nat.reduceEqDiff, Nat.reduceLT, Nat.reduceLeDiff, reduceCtorEq, Int.reduceToNat, Int.reduceLT, Int.reduceLE, Int.reduceEq, Int.reduceNeg, Int.reduceBEq, Int.reduceBNe, String.reduceEq, forall_const, ↓vmDA, vmVA, ↓vmQA, vmR, vmRA, ↓vmSA, vmSV, tyS, nuE, SubA.skip, SubA.refl, fr.2, areDigits_v, panSum_v, rdigits_v, rsum_v, panLuhn_v, rLuhn_v, panCheck_v, rCheck_v, panCd_v, rCd_v, ↓sA_usd, ↓sA_ust, soft_usd, soft_ust, cnvN_pu, cnvN_up, eqS_pp, isPrefix_v, rMake_v, panIndex_v, rIndex_v, panMask_v, rMask_v, panWithin_v, rWithin_v, panDgAt_v, rDgAt_v, rGroup_v, panGroup_v, rStrip_v, panStrip_v, bs_size, q, aw, c1, c2, BEq.rfl]
theorem makesLaw_w (A : AH) (hT : TabA A) (p : List UInt8) (n len : Int) (hn0 : -9223372036854775808 ≤ n) (hn1 : n ≤ 9223372036854775807) (B_ : AH) (hB_ : SubA A B_) : valA Tryd.prog 4 #[.string (bs p), .int .i64 n, .int .i64 len] B_ = some (.bool true) := valA_eq (pureA_at (by kernel_rfl) (makesLaw_h A hT p n len hn0 hn1) hB_)
theorem makesLaw_v (A : AH) (hT : TabA A) (p : List UInt8) (n len : Int) (hn0 : -9223372036854775808 ≤ n) (hn1 : n ≤ 9223372036854775807) : valA Tryd.prog 4 #[.string (bs p), .int .i64 n, .int .i64 len] A = some (.bool true) := valA_eq (pureA_at (by kernel_rfl) (makesLaw_h A hT p n len hn0 hn1) (SubA.refl _))
theorem findsLaw_h (A : AH) (hT : TabA A) (s lo hi : List UInt8) : CallA Tryd.prog 5 #[.string (bs s), .string (bs lo), .string (bs hi)] A (fun u_ A_ => u_ = .bool true ∧ SubA A A_) := by
  refine callA_of_denA ⟨Tryd.prog, 5, Tryd.f5, 59, [0, 1, 2, 6, 7, 8, 9, 10], [], [], _⟩ (args := [_, _, _]) Tryd.func5 rfl (by kernel_rfl) Tryd.ntmps5 (by simp) (by kernel_rfl) ?_
  intro ν fr; have nuE := fr.nu
  have aw := awake04_v A hT
  by_cases h : 100 < s.length
  · have q : ((100 : Int) < (s.length : Int)) = True := eq_true (by omega)
    simp (maxDischargeDepth := 16) only [argE_nil, argE_cons, ↓vmD, vmV, vmStd, Nat.reduceMul, ↓reduceIte, Nat.reduceAdd, Nat.reduceSub, Nat.reduceEqDiff, Nat.reduceLT, Nat.reduceLeDiff, reduceCtorEq, Int.reduceToNat, Int.reduceLT, Int.reduceLE, Int.reduceEq, Int.reduceNeg, Int.reduceBEq, Int.reduceBNe, String.reduceEq, forall_const, ↓vmDA, vmVA, ↓vmQA, vmR, vmRA, ↓vmSA, vmSV, tyS, nuE, SubA.skip, SubA.refl, fr.2, areDigits_v, panSum_v, rdigits_v, rsum_v, panLuhn_v, rLuhn_v, panCheck_v, rCheck_v, panCd_v, rCd_v, ↓sA_usd, ↓sA_ust, soft_usd, soft_ust, cnvN_pu, cnvN_up, eqS_pp, isPrefix_v, rMake_v, panIndex_v, rIndex_v, panMask_v, rMask_v, panWithin_v, rWithin_v, panDgAt_v, rDgAt_v, rGroup_v, panGroup_v, rStrip_v, panStrip_v, bs_size, q, aw]
  have q : ((100 : Int) < (s.length : Int)) = False := eq_false (by omega)
  by_cases h2 : 100 < lo.length
  · have q2 : ((100 : Int) < (lo.length : Int)) = True := eq_true (by omega)
    simp (maxDischargeDepth := 16) only [argE_nil, argE_cons, ↓vmD, vmV, vmStd, Nat.reduceMul, ↓reduceIte, Nat.reduceAdd, Nat.reduceSub, Nat.reduceEqDiff, Nat.reduceLT, Nat.reduceLeDiff, reduceCtorEq, Int.reduceToNat, Int.reduceLT, Int.reduceLE, Int.reduceEq, Int.reduceNeg, Int.reduceBEq, Int.reduceBNe, String.reduceEq, forall_const, ↓vmDA, vmVA, ↓vmQA, vmR, vmRA, ↓vmSA, vmSV, tyS, nuE, SubA.skip, SubA.refl, fr.2, areDigits_v, panSum_v, rdigits_v, rsum_v, panLuhn_v, rLuhn_v, panCheck_v, rCheck_v, panCd_v, rCd_v, ↓sA_usd, ↓sA_ust, soft_usd, soft_ust, cnvN_pu, cnvN_up, eqS_pp, isPrefix_v, rMake_v, panIndex_v, rIndex_v, panMask_v, rMask_v, panWithin_v, rWithin_v, panDgAt_v, rDgAt_v, rGroup_v, panGroup_v, rStrip_v, panStrip_v, bs_size, q, q2, aw]
  have q2 : ((100 : Int) < (lo.length : Int)) = False := eq_false (by omega)
  by_cases h3 : 100 < hi.length
  · have q3 : ((100 : Int) < (hi.length : Int)) = True := eq_true (by omega)
    simp (maxDischargeDepth := 16) only [argE_nil, argE_cons, ↓vmD, vmV, vmStd, Nat.reduceMul, ↓reduceIte, Nat.reduceAdd, Nat.reduceSub, Nat.reduceEqDiff, Nat.reduceLT, Nat.reduceLeDiff, reduceCtorEq, Int.reduceToNat, Int.reduceLT, Int.reduceLE, Int.reduceEq, Int.reduceNeg, Int.reduceBEq, Int.reduceBNe, String.reduceEq, forall_const, ↓vmDA, vmVA, ↓vmQA, vmR, vmRA, ↓vmSA, vmSV, tyS, nuE, SubA.skip, SubA.refl, fr.2, areDigits_v, panSum_v, rdigits_v, rsum_v, panLuhn_v, rLuhn_v, panCheck_v, rCheck_v, panCd_v, rCd_v, ↓sA_usd, ↓sA_ust, soft_usd, soft_ust, cnvN_pu, cnvN_up, eqS_pp, isPrefix_v, rMake_v, panIndex_v, rIndex_v, panMask_v, rMask_v, panWithin_v, rWithin_v, panDgAt_v, rDgAt_v, rGroup_v, panGroup_v, rStrip_v, panStrip_v, bs_size, q, q2, q3, aw]
  have q3 : ((100 : Int) < (hi.length : Int)) = False := eq_false (by omega)
  obtain ⟨n, b, hix⟩ := idxV_form lo s
  have c1 := fun A => panIndex_v lo s (by omega) (by omega) A
  have c2 := fun A => rIndex_v lo s (by omega) (by omega) A
  rw [hix] at c1 c2
  have w1 := fun A => panWithin_v s lo hi (by omega) (by omega) (by omega) A
  have w2 := fun A => rWithin_v s lo hi (by omega) (by omega) (by omega) A
  simp (maxDischargeDepth := 16) only [argE_nil, argE_cons, ↓vmD, vmV, vmStd, Nat.reduceMul, ↓reduceIte, Nat.reduceAdd, Nat.reduceSub, Nat.reduceEqDiff, Nat.reduceLT, Nat.reduceLeDiff, reduceCtorEq, Int.reduceToNat, Int.reduceLT, Int.reduceLE, Int.reduceEq, Int.reduceNeg, Int.reduceBEq, Int.reduceBNe, String.reduceEq, forall_const, ↓vmDA, vmVA, ↓vmQA, vmR, vmRA, ↓vmSA, vmSV, tyS, nuE, SubA.skip, SubA.refl, fr.2, areDigits_v, panSum_v, rdigits_v, rsum_v, panLuhn_v, rLuhn_v, panCheck_v, rCheck_v, panCd_v, rCd_v, ↓sA_usd, ↓sA_ust, soft_usd, soft_ust, cnvN_pu, cnvN_up, eqS_pp, isPrefix_v, rMake_v, panIndex_v, rIndex_v, panMask_v, rMask_v, panWithin_v, rWithin_v, panDgAt_v, rDgAt_v, rGroup_v, panGroup_v, rStrip_v, panStrip_v, bs_size, q, q2, q3, aw, c1, c2, w1, w2, BEq.rfl]
theorem findsLaw_w (A : AH) (hT : TabA A) (s lo hi : List UInt8) (B_ : AH) (hB_ : SubA A B_) : valA Tryd.prog 5 #[.string (bs s), .string (bs lo), .string (bs hi)] B_ = some (.bool true) := valA_eq (pureA_at (by kernel_rfl) (findsLaw_h A hT s lo hi) hB_)
theorem findsLaw_v (A : AH) (hT : TabA A) (s lo hi : List UInt8) : valA Tryd.prog 5 #[.string (bs s), .string (bs lo), .string (bs hi)] A = some (.bool true) := valA_eq (pureA_at (by kernel_rfl) (findsLaw_h A hT s lo hi) (SubA.refl _))
theorem stripsLaw_h (A : AH) (hT : TabA A) (s : List UInt8) : CallA Tryd.prog 6 #[.string (bs s)] A (fun u_ A_ => u_ = .bool true ∧ SubA A A_) := by
  refine callA_of_denA ⟨Tryd.prog, 6, Tryd.f6, 32, [0, 2, 3, 4, 5, 6], [], [], _⟩ (args := [_]) Tryd.func6 rfl (by kernel_rfl) Tryd.ntmps6 (by simp) (by kernel_rfl) ?_
  intro ν fr; have nuE := fr.nu
  have aw := awake04_v A hT
  by_cases h : 100 < s.length
  · have q : ((100 : Int) < (s.length : Int)) = True := eq_true (by omega)
    simp (maxDischargeDepth := 16) only [argE_nil, argE_cons, ↓vmD, vmV, vmStd, Nat.reduceMul, ↓reduceIte, Nat.reduceAdd, Nat.reduceSub, Nat.reduceEqDiff, Nat.reduceLT, Nat.reduceLeDiff, reduceCtorEq, Int.reduceToNat, Int.reduceLT, Int.reduceLE, Int.reduceEq, Int.reduceNeg, Int.reduceBEq, Int.reduceBNe, String.reduceEq, forall_const, ↓vmDA, vmVA, ↓vmQA, vmR, vmRA, ↓vmSA, vmSV, tyS, nuE, SubA.skip, SubA.refl, fr.2, areDigits_v, panSum_v, rdigits_v, rsum_v, panLuhn_v, rLuhn_v, panCheck_v, rCheck_v, panCd_v, rCd_v, ↓sA_usd, ↓sA_ust, soft_usd, soft_ust, cnvN_pu, cnvN_up, eqS_pp, isPrefix_v, rMake_v, panIndex_v, rIndex_v, panMask_v, rMask_v, panWithin_v, rWithin_v, panDgAt_v, rDgAt_v, rGroup_v, panGroup_v, rStrip_v, panStrip_v, bs_size, q, aw]
  have q : ((100 : Int) < (s.length : Int)) = False := eq_false (by omega)
  obtain ⟨a, e, hst⟩ := strV_form s
  have c1 := fun A => panStrip_v s (by omega) A
  have c2 := fun A => rStrip_v s (by omega) A
  rw [hst] at c1 c2
  simp (maxDischargeDepth := 16) only [argE_nil, argE_cons, ↓vmD, vmV, vmStd, Nat.reduceMul, ↓reduceIte, Nat.reduceAdd, Nat.reduceSub, Nat.reduceEqDiff, Nat.reduceLT, Nat.reduceLeDiff, reduceCtorEq, Int.reduceToNat, Int.reduceLT, Int.reduceLE, Int.reduceEq, Int.reduceNeg, Int.reduceBEq, Int.reduceBNe, String.reduceEq, forall_const, ↓vmDA, vmVA, ↓vmQA, vmR, vmRA, ↓vmSA, vmSV, tyS, nuE, SubA.skip, SubA.refl, fr.2, areDigits_v, panSum_v, rdigits_v, rsum_v, panLuhn_v, rLuhn_v, panCheck_v, rCheck_v, panCd_v, rCd_v, ↓sA_usd, ↓sA_ust, soft_usd, soft_ust, cnvN_pu, cnvN_up, eqS_pp, isPrefix_v, rMake_v, panIndex_v, rIndex_v, panMask_v, rMask_v, panWithin_v, rWithin_v, panDgAt_v, rDgAt_v, rGroup_v, panGroup_v, rStrip_v, panStrip_v, bs_size, q, aw, c1, c2, BEq.rfl]
theorem stripsLaw_w (A : AH) (hT : TabA A) (s : List UInt8) (B_ : AH) (hB_ : SubA A B_) : valA Tryd.prog 6 #[.string (bs s)] B_ = some (.bool true) := valA_eq (pureA_at (by kernel_rfl) (stripsLaw_h A hT s) hB_)
theorem stripsLaw_v (A : AH) (hT : TabA A) (s : List UInt8) : valA Tryd.prog 6 #[.string (bs s)] A = some (.bool true) := valA_eq (pureA_at (by kernel_rfl) (stripsLaw_h A hT s) (SubA.refl _))
theorem callsH_of_pure {P : Program} {g : FuncId} {args : Array Value} {A : AH} {v : Value} (hv : valA P g args A = some v) (hc : callable P g = true) {h : Heap} (hs : Sat A h) : CallsH P g args h fun e h' => e = .returned v ∧ Grew h h' := by
  have := (valA_out hv).2 h hs
  unfold RunC at this
  rwa [if_pos hc] at this
theorem wf_i64 {n : Int} (h : (Lit.int .i64 n).wf = true) : -9223372036854775808 ≤ n ∧ n ≤ 9223372036854775807 := by
  simp [Lit.wf, IntKind.min, IntKind.max, IntKind.bits, IntKind.signed] at h
  omega
theorem checks_walk (w : World) (ht : Lib.TabIs Tryd.prog w "internal/strconv.uint64pow10" .u64 Lib.pow10Tab) (s : ByteArray) :
    CallsH Tryd.prog 3 #[.string s] w.heap fun e h' => e = .returned (.bool true) ∧ Grew w.heap h' := by
  obtain ⟨A, hA, hT⟩ := TabA.of ht
  rw [bs_of s]
  exact callsH_of_pure (checksLaw_v A hT s.data.toList) (by kernel_rfl) hA
theorem strips_walk (w : World) (ht : Lib.TabIs Tryd.prog w "internal/strconv.uint64pow10" .u64 Lib.pow10Tab) (s : ByteArray) :
    CallsH Tryd.prog 6 #[.string s] w.heap fun e h' => e = .returned (.bool true) ∧ Grew w.heap h' := by
  obtain ⟨A, hA, hT⟩ := TabA.of ht
  rw [bs_of s]
  exact callsH_of_pure (stripsLaw_v A hT s.data.toList) (by kernel_rfl) hA
theorem makes_walk (w : World) (ht : Lib.TabIs Tryd.prog w "internal/strconv.uint64pow10" .u64 Lib.pow10Tab) (p : ByteArray) (n : Int) (wn : (Lit.int .i64 n).wf = true) (len : Int) (wl : (Lit.int .i64 len).wf = true) :
    CallsH Tryd.prog 4 #[.string p, .int .i64 n, .int .i64 len] w.heap fun e h' => e = .returned (.bool true) ∧ Grew w.heap h' := by
  obtain ⟨A, hA, hT⟩ := TabA.of ht
  rw [bs_of p]
  exact callsH_of_pure (makesLaw_v A hT p.data.toList n len (wf_i64 wn).1 (wf_i64 wn).2) (by kernel_rfl) hA
theorem finds_walk (w : World) (ht : Lib.TabIs Tryd.prog w "internal/strconv.uint64pow10" .u64 Lib.pow10Tab) (s lo hi : ByteArray) :
    CallsH Tryd.prog 5 #[.string s, .string lo, .string hi] w.heap fun e h' => e = .returned (.bool true) ∧ Grew w.heap h' := by
  obtain ⟨A, hA, hT⟩ := TabA.of ht
  rw [bs_of s, bs_of lo, bs_of hi]
  exact callsH_of_pure (findsLaw_v A hT s.data.toList lo.data.toList hi.data.toList) (by kernel_rfl) hA
end Go.Proofs.YtnpjgimkllebhaaDoor
