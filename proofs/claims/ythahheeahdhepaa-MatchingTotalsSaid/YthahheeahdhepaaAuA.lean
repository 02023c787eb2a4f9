/-
Authorizations: what is open, what can be used, clearing.
Conditions: none.
-/
import Derived.Test.YthahheeahdhepaaAu2
namespace Go.Proofs.Ythahheeahdhepaa
open Go.Vm
set_option linter.unusedSimpArgs false
set_option linter.unusedVariables false
set_option maxHeartbeats 1000000
set_option maxRecDepth 20000
theorem chk_zero {id cu : ByteArray} {ap rv cl ex st tm un pa : Int} (h : chkG id cu ap rv cl ex st tm un pa = 0) : idF id = true ∧ curF cu = true ∧ rngP ap rv cl ex ∧ 0 ≤ ap - rv - cl - ex ∧ timeP tm un ∧ partsP cl pa ∧ stateP ap rv cl ex st := by
  unfold chkG at h
  repeat' split at h
  all_goals first | (cases h; done) | skip
  simp_all
theorem nz {n : Int} (hn : ¬ n = 0) : (n != 0) = true := by simpa using hn
def openG (id cu : ByteArray) (ap rv cl ex st tm un pa : Int) : Int := if chkG id cu ap rv cl ex st tm un pa = 0 then ap - rv - cl - ex else 0
theorem fundsA_h (id cu : ByteArray) (ap rv cl ex st tm un pa : Int) (hr : rngP ap rv cl ex) : CallA Try.prog 39 #[.agg #[.string id, .string cu, .int .i64 ap, .int .i64 rv, .int .i64 cl, .int .i64 ex, .int .i64 st, .int .i64 tm, .int .i64 un, .int .i64 pa]] [] (fun u_ _ => u_ = .int .i64 (ap - rv - cl - ex)) := by
  refine callA_of_denA ⟨Try.prog, 39, Try.f39, 14, [0, 1, 2], [], [], _⟩ (args := [_]) Try.func39 rfl (by kernel_rfl) Try.ntmps39 (by simp) (by kernel_rfl) ?_
  intro ν fr; have nuE := fr.nu
  simp (maxDischargeDepth := 16) only [argE_nil, argE_cons, ↓vmD, vmV, vmStd, Nat.reduceMul, ↓reduceIte, Nat.reduceAdd, Nat.reduceSub, Nat.reduceEqDiff, Nat.reduceLT, Nat.reduceLeDiff, reduceCtorEq, Int.reduceToNat, Int.reduceLT, Int.reduceLE, Int.reduceEq, Int.reduceNeg, Int.reduceBEq, Int.reduceBNe, String.reduceEq, forall_const, ↓vmDA, vmVA, ↓vmQA, vmR, vmRA, ↓vmSA, vmSV, tyS, nuE, slIndexByte_v, indexByte_v, indexRune_v, containsRune_v, classOf_v, isWordByte_v, letter_v, digit_v, wordAt_v, rword_v, isName_v, risName_v, recId_v, authId_v, rId13_v, rId27_v, moneyCur_v, authCur_v, rCur27_v, rCur01_v, isPart_v, authCheck_v, inTotal_v, rwithin1_v, exCard_v, recCheck_v, rrecCheck_v, within27_v, rauthCheck_v, fundsW hr]
theorem fundsA_v (id cu : ByteArray) (ap rv cl ex st tm un pa : Int) (hr : rngP ap rv cl ex) (A_ : AH) : valA Try.prog 39 #[.agg #[.string id, .string cu, .int .i64 ap, .int .i64 rv, .int .i64 cl, .int .i64 ex, .int .i64 st, .int .i64 tm, .int .i64 un, .int .i64 pa]] A_ = some (.int .i64 (ap - rv - cl - ex)) := valA_eq (pureA_of (by kernel_rfl) (fundsA_h id cu ap rv cl ex st tm un pa hr))
theorem settledA_h (id cu : ByteArray) (ap rv cl ex st tm un pa : Int) (hr : rngP ap rv cl ex) : CallA Try.prog 40 #[.agg #[.string id, .string cu, .int .i64 ap, .int .i64 rv, .int .i64 cl, .int .i64 ex, .int .i64 st, .int .i64 tm, .int .i64 un, .int .i64 pa]] [] (fun u_ _ => u_ = .agg #[.string id, .string cu, .int .i64 ap, .int .i64 rv, .int .i64 cl, .int .i64 ex, .int .i64 (stF (ap - rv - cl - ex) ex cl), .int .i64 tm, .int .i64 un, .int .i64 pa]) := by
  refine callA_of_denA ⟨Try.prog, 40, Try.f40, 20, [0, 1, 2], [], [], _⟩ (args := [_]) Try.func40 rfl (by kernel_rfl) Try.ntmps40 (by simp) (by kernel_rfl) ?_
  intro ν fr; have nuE := fr.nu
  simp (maxDischargeDepth := 16) only [argE_nil, argE_cons, ↓vmD, vmV, vmStd, Nat.reduceMul, ↓reduceIte, Nat.reduceAdd, Nat.reduceSub, Nat.reduceEqDiff, Nat.reduceLT, Nat.reduceLeDiff, reduceCtorEq, Int.reduceToNat, Int.reduceLT, Int.reduceLE, Int.reduceEq, Int.reduceNeg, Int.reduceBEq, Int.reduceBNe, String.reduceEq, forall_const, ↓vmDA, vmVA, ↓vmQA, vmR, vmRA, ↓vmSA, vmSV, tyS, nuE, slIndexByte_v, indexByte_v, indexRune_v, containsRune_v, classOf_v, isWordByte_v, letter_v, digit_v, wordAt_v, rword_v, isName_v, risName_v, recId_v, authId_v, rId13_v, rId27_v, moneyCur_v, authCur_v, rCur27_v, rCur01_v, isPart_v, authCheck_v, inTotal_v, rwithin1_v, exCard_v, recCheck_v, rrecCheck_v, within27_v, rauthCheck_v, fundsA_v, hr]
  simp only [stF]
  repeat' split
  all_goals rfl
theorem settledA_v (id cu : ByteArray) (ap rv cl ex st tm un pa : Int) (hr : rngP ap rv cl ex) (A_ : AH) : valA Try.prog 40 #[.agg #[.string id, .string cu, .int .i64 ap, .int .i64 rv, .int .i64 cl, .int .i64 ex, .int .i64 st, .int .i64 tm, .int .i64 un, .int .i64 pa]] A_ = some (.agg #[.string id, .string cu, .int .i64 ap, .int .i64 rv, .int .i64 cl, .int .i64 ex, .int .i64 (stF (ap - rv - cl - ex) ex cl), .int .i64 tm, .int .i64 un, .int .i64 pa]) := valA_eq (pureA_of (by kernel_rfl) (settledA_h id cu ap rv cl ex st tm un pa hr))
theorem state27A_h (id cu : ByteArray) (ap rv cl ex st tm un pa : Int) (hr : rngP ap rv cl ex) : CallA Try.prog 49 #[.agg #[.string id, .string cu, .int .i64 ap, .int .i64 rv, .int .i64 cl, .int .i64 ex, .int .i64 st, .int .i64 tm, .int .i64 un, .int .i64 pa]] [] (fun u_ _ => u_ = .int .i64 (stF (ap - rv - cl - ex) ex cl)) := by
  refine callA_of_denA ⟨Try.prog, 49, Try.f49, 21, [0, 1, 2], [], [], _⟩ (args := [_]) Try.func49 rfl (by kernel_rfl) Try.ntmps49 (by simp) (by kernel_rfl) ?_
  intro ν fr; have nuE := fr.nu
  simp (maxDischargeDepth := 16) only [argE_nil, argE_cons, ↓vmD, vmV, vmStd, Nat.reduceMul, ↓reduceIte, Nat.reduceAdd, Nat.reduceSub, Nat.reduceEqDiff, Nat.reduceLT, Nat.reduceLeDiff, reduceCtorEq, Int.reduceToNat, Int.reduceLT, Int.reduceLE, Int.reduceEq, Int.reduceNeg, Int.reduceBEq, Int.reduceBNe, String.reduceEq, forall_const, ↓vmDA, vmVA, ↓vmQA, vmR, vmRA, ↓vmSA, vmSV, tyS, nuE, slIndexByte_v, indexByte_v, indexRune_v, containsRune_v, classOf_v, isWordByte_v, letter_v, digit_v, wordAt_v, rword_v, isName_v, risName_v, recId_v, authId_v, rId13_v, rId27_v, moneyCur_v, authCur_v, rCur27_v, rCur01_v, isPart_v, authCheck_v, inTotal_v, rwithin1_v, exCard_v, recCheck_v, rrecCheck_v, within27_v, rauthCheck_v, fundsA_v, settledA_v, fundsW hr]
  simp only [stF]
  repeat' split
  all_goals rfl
theorem state27A_v (id cu : ByteArray) (ap rv cl ex st tm un pa : Int) (hr : rngP ap rv cl ex) (A_ : AH) : valA Try.prog 49 #[.agg #[.string id, .string cu, .int .i64 ap, .int .i64 rv, .int .i64 cl, .int .i64 ex, .int .i64 st, .int .i64 tm, .int .i64 un, .int .i64 pa]] A_ = some (.int .i64 (stF (ap - rv - cl - ex) ex cl)) := valA_eq (pureA_of (by kernel_rfl) (state27A_h id cu ap rv cl ex st tm un pa hr))
theorem authOpen_h (id cu : ByteArray) (ap rv cl ex st tm un pa : Int) (h1 : id.size ≤ 100000) (h2 : cu.size ≤ 100000) : CallA Try.prog 17 #[.agg #[.string id, .string cu, .int .i64 ap, .int .i64 rv, .int .i64 cl, .int .i64 ex, .int .i64 st, .int .i64 tm, .int .i64 un, .int .i64 pa]] [] (fun u_ _ => u_ = .int .i64 (openG id cu ap rv cl ex st tm un pa)) := by
  refine callA_of_denA ⟨Try.prog, 17, Try.f17, 8, [0, 1, 2], [], [], _⟩ (args := [_]) Try.func17 rfl (by kernel_rfl) Try.ntmps17 (by simp) (by kernel_rfl) ?_
  intro ν fr; have nuE := fr.nu
  simp (maxDischargeDepth := 16) only [argE_nil, argE_cons, ↓vmD, vmV, vmStd, Nat.reduceMul, ↓reduceIte, Nat.reduceAdd, Nat.reduceSub, Nat.reduceEqDiff, Nat.reduceLT, Nat.reduceLeDiff, reduceCtorEq, Int.reduceToNat, Int.reduceLT, Int.reduceLE, Int.reduceEq, Int.reduceNeg, Int.reduceBEq, Int.reduceBNe, String.reduceEq, forall_const, ↓vmDA, vmVA, ↓vmQA, vmR, vmRA, ↓vmSA, vmSV, tyS, nuE, slIndexByte_v, indexByte_v, indexRune_v, containsRune_v, classOf_v, isWordByte_v, letter_v, digit_v, wordAt_v, rword_v, isName_v, risName_v, recId_v, authId_v, rId13_v, rId27_v, moneyCur_v, authCur_v, rCur27_v, rCur01_v, isPart_v, authCheck_v, inTotal_v, rwithin1_v, exCard_v, recCheck_v, rrecCheck_v, within27_v, rauthCheck_v, fundsA_v, settledA_v, state27A_v, h1, h2]
  by_cases hz : chkG id cu ap rv cl ex st tm un pa = 0
  · obtain ⟨_, _, hr, _⟩ := chk_zero hz
    simp (maxDischargeDepth := 16) only [argE_nil, argE_cons, ↓vmD, vmV, vmStd, Nat.reduceMul, ↓reduceIte, Nat.reduceAdd, Nat.reduceSub, Nat.reduceEqDiff, Nat.reduceLT, Nat.reduceLeDiff, reduceCtorEq, Int.reduceToNat, Int.reduceLT, Int.reduceLE, Int.reduceEq, Int.reduceNeg, Int.reduceBEq, Int.reduceBNe, String.reduceEq, forall_const, ↓vmDA, vmVA, ↓vmQA, vmR, vmRA, ↓vmSA, vmSV, tyS, nuE, slIndexByte_v, indexByte_v, indexRune_v, containsRune_v, classOf_v, isWordByte_v, letter_v, digit_v, wordAt_v, rword_v, isName_v, risName_v, recId_v, authId_v, rId13_v, rId27_v, moneyCur_v, authCur_v, rCur27_v, rCur01_v, isPart_v, authCheck_v, inTotal_v, rwithin1_v, exCard_v, recCheck_v, rrecCheck_v, within27_v, rauthCheck_v, fundsA_v, settledA_v, state27A_v, hz, hr]
    simp only [openG, hz, if_true]
  · simp (maxDischargeDepth := 16) only [argE_nil, argE_cons, ↓vmD, vmV, vmStd, Nat.reduceMul, ↓reduceIte, Nat.reduceAdd, Nat.reduceSub, Nat.reduceEqDiff, Nat.reduceLT, Nat.reduceLeDiff, reduceCtorEq, Int.reduceToNat, Int.reduceLT, Int.reduceLE, Int.reduceEq, Int.reduceNeg, Int.reduceBEq, Int.reduceBNe, String.reduceEq, forall_const, ↓vmDA, vmVA, ↓vmQA, vmR, vmRA, ↓vmSA, vmSV, tyS, nuE, slIndexByte_v, indexByte_v, indexRune_v, containsRune_v, classOf_v, isWordByte_v, letter_v, digit_v, wordAt_v, rword_v, isName_v, risName_v, recId_v, authId_v, rId13_v, rId27_v, moneyCur_v, authCur_v, rCur27_v, rCur01_v, isPart_v, authCheck_v, inTotal_v, rwithin1_v, exCard_v, recCheck_v, rrecCheck_v, within27_v, rauthCheck_v, fundsA_v, settledA_v, state27A_v, hz]
    simp only [openG, hz, if_false]
theorem authOpen_v (id cu : ByteArray) (ap rv cl ex st tm un pa : Int) (h1 : id.size ≤ 100000) (h2 : cu.size ≤ 100000) (A_ : AH) : valA Try.prog 17 #[.agg #[.string id, .string cu, .int .i64 ap, .int .i64 rv, .int .i64 cl, .int .i64 ex, .int .i64 st, .int .i64 tm, .int .i64 un, .int .i64 pa]] A_ = some (.int .i64 (openG id cu ap rv cl ex st tm un pa)) := valA_eq (pureA_of (by kernel_rfl) (authOpen_h id cu ap rv cl ex st tm un pa h1 h2))
theorem rauthOpen_h (id cu : ByteArray) (ap rv cl ex st tm un pa : Int) (h1 : id.size ≤ 100000) (h2 : cu.size ≤ 100000) : CallA Try.prog 31 #[.agg #[.string id, .string cu, .int .i64 ap, .int .i64 rv, .int .i64 cl, .int .i64 ex, .int .i64 st, .int .i64 tm, .int .i64 un, .int .i64 pa]] [] (fun u_ _ => u_ = .int .i64 (openG id cu ap rv cl ex st tm un pa)) := by
  refine callA_of_denA ⟨Try.prog, 31, Try.f31, 17, [0, 1, 2], [], [], _⟩ (args := [_]) Try.func31 rfl (by kernel_rfl) Try.ntmps31 (by simp) (by kernel_rfl) ?_
  intro ν fr; have nuE := fr.nu
  simp (maxDischargeDepth := 16) only [argE_nil, argE_cons, ↓vmD, vmV, vmStd, Nat.reduceMul, ↓reduceIte, Nat.reduceAdd, Nat.reduceSub, Nat.reduceEqDiff, Nat.reduceLT, Nat.reduceLeDiff, reduceCtorEq, Int.reduceToNat, Int.reduceLT, Int.reduceLE, Int.reduceEq, Int.reduceNeg, Int.reduceBEq, Int.reduceBNe, String.reduceEq, forall_const, ↓vmDA, vmVA, ↓vmQA, vmR, vmRA, ↓vmSA, vmSV, tyS, nuE, slIndexByte_v, indexByte_v, indexRune_v, containsRune_v, classOf_v, isWordByte_v, letter_v, digit_v, wordAt_v, rword_v, isName_v, risName_v, recId_v, authId_v, rId13_v, rId27_v, moneyCur_v, authCur_v, rCur27_v, rCur01_v, isPart_v, authCheck_v, inTotal_v, rwithin1_v, exCard_v, recCheck_v, rrecCheck_v, within27_v, rauthCheck_v, fundsA_v, settledA_v, state27A_v, authOpen_v, h1, h2]
  by_cases hz : chkG id cu ap rv cl ex st tm un pa = 0
  · obtain ⟨_, _, hr, _⟩ := chk_zero hz
    simp (maxDischargeDepth := 16) only [argE_nil, argE_cons, ↓vmD, vmV, vmStd, Nat.reduceMul, ↓reduceIte, Nat.reduceAdd, Nat.reduceSub, Nat.reduceEqDiff, Nat.reduceLT, Nat.reduceLeDiff, reduceCtorEq, Int.reduceToNat, Int.reduceLT, Int.reduceLE, Int.reduceEq, Int.reduceNeg, Int.reduceBEq, Int.reduceBNe, String.reduceEq, forall_const, ↓vmDA, vmVA, ↓vmQA, vmR, vmRA, ↓vmSA, vmSV, tyS, nuE, slIndexByte_v, indexByte_v, indexRune_v, containsRune_v, classOf_v, isWordByte_v, letter_v, digit_v, wordAt_v, rword_v, isName_v, risName_v, recId_v, authId_v, rId13_v, rId27_v, moneyCur_v, authCur_v, rCur27_v, rCur01_v, isPart_v, authCheck_v, inTotal_v, rwithin1_v, exCard_v, recCheck_v, rrecCheck_v, within27_v, rauthCheck_v, fundsA_v, settledA_v, state27A_v, authOpen_v, hz, fundsW hr]
    simp only [openG, hz, if_true]
  · simp (maxDischargeDepth := 16) only [argE_nil, argE_cons, ↓vmD, vmV, vmStd, Nat.reduceMul, ↓reduceIte, Nat.reduceAdd, Nat.reduceSub, Nat.reduceEqDiff, Nat.reduceLT, Nat.reduceLeDiff, reduceCtorEq, Int.reduceToNat, Int.reduceLT, Int.reduceLE, Int.reduceEq, Int.reduceNeg, Int.reduceBEq, Int.reduceBNe, String.reduceEq, forall_const, ↓vmDA, vmVA, ↓vmQA, vmR, vmRA, ↓vmSA, vmSV, tyS, nuE, slIndexByte_v, indexByte_v, indexRune_v, containsRune_v, classOf_v, isWordByte_v, letter_v, digit_v, wordAt_v, rword_v, isName_v, risName_v, recId_v, authId_v, rId13_v, rId27_v, moneyCur_v, authCur_v, rCur27_v, rCur01_v, isPart_v, authCheck_v, inTotal_v, rwithin1_v, exCard_v, recCheck_v, rrecCheck_v, within27_v, rauthCheck_v, fundsA_v, settledA_v, state27A_v, authOpen_v, hz]
    simp only [openG, hz, if_false]
theorem rauthOpen_v (id cu : ByteArray) (ap rv cl ex st tm un pa : Int) (h1 : id.size ≤ 100000) (h2 : cu.size ≤ 100000) (A_ : AH) : valA Try.prog 31 #[.agg #[.string id, .string cu, .int .i64 ap, .int .i64 rv, .int .i64 cl, .int .i64 ex, .int .i64 st, .int .i64 tm, .int .i64 un, .int .i64 pa]] A_ = some (.int .i64 (openG id cu ap rv cl ex st tm un pa)) := valA_eq (pureA_of (by kernel_rfl) (rauthOpen_h id cu ap rv cl ex st tm un pa h1 h2))
theorem authUsable_h (id cu : ByteArray) (ap rv cl ex st tm un pa : Int) (h1 : id.size ≤ 100000) (h2 : cu.size ≤ 100000) (hz : chkG id cu ap rv cl ex st tm un pa = 0) (hs : st = 1) : CallA Try.prog 45 #[.agg #[.string id, .string cu, .int .i64 ap, .int .i64 rv, .int .i64 cl, .int .i64 ex, .int .i64 st, .int .i64 tm, .int .i64 un, .int .i64 pa]] [] (fun u_ _ => u_ = .int .i64 0) := by
  refine callA_of_denA ⟨Try.prog, 45, Try.f45, 12, [0, 1, 2, 3], [], [], _⟩ (args := [_]) Try.func45 rfl (by kernel_rfl) Try.ntmps45 (by simp) (by kernel_rfl) ?_
  intro ν fr; have nuE := fr.nu
  subst hs
  simp (maxDischargeDepth := 16) only [argE_nil, argE_cons, ↓vmD, vmV, vmStd, Nat.reduceMul, ↓reduceIte, Nat.reduceAdd, Nat.reduceSub, Nat.reduceEqDiff, Nat.reduceLT, Nat.reduceLeDiff, reduceCtorEq, Int.reduceToNat, Int.reduceLT, Int.reduceLE, Int.reduceEq, Int.reduceNeg, Int.reduceBEq, Int.reduceBNe, String.reduceEq, forall_const, ↓vmDA, vmVA, ↓vmQA, vmR, vmRA, ↓vmSA, vmSV, tyS, nuE, slIndexByte_v, indexByte_v, indexRune_v, containsRune_v, classOf_v, isWordByte_v, letter_v, digit_v, wordAt_v, rword_v, isName_v, risName_v, recId_v, authId_v, rId13_v, rId27_v, moneyCur_v, authCur_v, rCur27_v, rCur01_v, isPart_v, authCheck_v, inTotal_v, rwithin1_v, exCard_v, recCheck_v, rrecCheck_v, within27_v, rauthCheck_v, fundsA_v, settledA_v, state27A_v, authOpen_v, rauthOpen_v, hz, h1, h2]
theorem authUsable_v (id cu : ByteArray) (ap rv cl ex st tm un pa : Int) (h1 : id.size ≤ 100000) (h2 : cu.size ≤ 100000) (hz : chkG id cu ap rv cl ex st tm un pa = 0) (hs : st = 1) (A_ : AH) : valA Try.prog 45 #[.agg #[.string id, .string cu, .int .i64 ap, .int .i64 rv, .int .i64 cl, .int .i64 ex, .int .i64 st, .int .i64 tm, .int .i64 un, .int .i64 pa]] A_ = some (.int .i64 0) := valA_eq (pureA_of (by kernel_rfl) (authUsable_h id cu ap rv cl ex st tm un pa h1 h2 hz hs))
theorem rauthUsable_h (id cu : ByteArray) (ap rv cl ex st tm un pa : Int) (h1 : id.size ≤ 100000) (h2 : cu.size ≤ 100000) (hz : chkG id cu ap rv cl ex st tm un pa = 0) (hs : st = 1) : CallA Try.prog 50 #[.agg #[.string id, .string cu, .int .i64 ap, .int .i64 rv, .int .i64 cl, .int .i64 ex, .int .i64 st, .int .i64 tm, .int .i64 un, .int .i64 pa]] [] (fun u_ _ => u_ = .int .i64 0) := by
  refine callA_of_denA ⟨Try.prog, 50, Try.f50, 12, [0, 1, 2, 3], [], [], _⟩ (args := [_]) Try.func50 rfl (by kernel_rfl) Try.ntmps50 (by simp) (by kernel_rfl) ?_
  intro ν fr; have nuE := fr.nu
  subst hs
  simp (maxDischargeDepth := 16) only [argE_nil, argE_cons, ↓vmD, vmV, vmStd, Nat.reduceMul, ↓reduceIte, Nat.reduceAdd, Nat.reduceSub, Nat.reduceEqDiff, Nat.reduceLT, Nat.reduceLeDiff, reduceCtorEq, Int.reduceToNat, Int.reduceLT, Int.reduceLE, Int.reduceEq, Int.reduceNeg, Int.reduceBEq, Int.reduceBNe, String.reduceEq, forall_const, ↓vmDA, vmVA, ↓vmQA, vmR, vmRA, ↓vmSA, vmSV, tyS, nuE, slIndexByte_v, indexByte_v, indexRune_v, containsRune_v, classOf_v, isWordByte_v, letter_v, digit_v, wordAt_v, rword_v, isName_v, risName_v, recId_v, authId_v, rId13_v, rId27_v, moneyCur_v, authCur_v, rCur27_v, rCur01_v, isPart_v, authCheck_v, inTotal_v, rwithin1_v, exCard_v, recCheck_v, rrecCheck_v, within27_v, rauthCheck_v, fundsA_v, settledA_v, state27A_v, authOpen_v, rauthOpen_v, authUsable_v, hz, h1, h2]
theorem rauthUsable_v (id cu : ByteArray) (ap rv cl ex st tm un pa : Int) (h1 : id.size ≤ 100000) (h2 : cu.size ≤ 100000) (hz : chkG id cu ap rv cl ex st tm un pa = 0) (hs : st = 1) (A_ : AH) : valA Try.prog 50 #[.agg #[.string id, .string cu, .int .i64 ap, .int .i64 rv, .int .i64 cl, .int .i64 ex, .int .i64 st, .int .i64 tm, .int .i64 un, .int .i64 pa]] A_ = some (.int .i64 0) := valA_eq (pureA_of (by kernel_rfl) (rauthUsable_h id cu ap rv cl ex st tm un pa h1 h2 hz hs))
def relG (o n : Int) (fi : Bool) : Int := if fi = true then o - min n o else 0
theorem authClear_h (id cu : ByteArray) (ap rv cl ex st tm un pa : Int) (n : Int) (fi : Bool) (h1 : id.size ≤ 100000) (h2 : cu.size ≤ 100000) (hz : chkG id cu ap rv cl ex st tm un pa = 0) (hs : st = 1) (hn : 1 ≤ n ∧ n ≤ 999999999999) (hp : pa < 8) : CallA Try.prog 29 #[.agg #[.string id, .string cu, .int .i64 ap, .int .i64 rv, .int .i64 cl, .int .i64 ex, .int .i64 st, .int .i64 tm, .int .i64 un, .int .i64 pa], .int .i64 n, .bool fi] [] (fun u_ _ => u_ = .tuple #[.agg #[.string id, .string cu, .int .i64 ap, .int .i64 (rv + relG (ap - rv - cl - ex) n fi), .int .i64 (cl + min n (ap - rv - cl - ex)), .int .i64 ex, .int .i64 (stF (ap - rv - cl - ex - min n (ap - rv - cl - ex) - relG (ap - rv - cl - ex) n fi) ex (cl + min n (ap - rv - cl - ex))), .int .i64 tm, .int .i64 un, .int .i64 (pa + 1)], .int .i64 (min n (ap - rv - cl - ex)), .int .i64 (relG (ap - rv - cl - ex) n fi), .int .i64 0]) := by
  refine callA_of_denA ⟨Try.prog, 29, Try.f29, 55, [0, 1, 2, 3, 6, 7, 8, 9, 10, 11, 12], [], [], _⟩ (args := [_, _, _]) Try.func29 rfl (by kernel_rfl) Try.ntmps29 (by simp) (by kernel_rfl) ?_
  intro ν fr; have nuE := fr.nu
  subst hs
  obtain ⟨hid, hcu, hr, hf, hti, hpa, hst⟩ := chk_zero hz
  have n1 : ¬ n < 1 := by omega
  have n2 : ¬ 999999999999 < n := by omega
  have n3 : 1 ≤ n := hn.1
  have n4 : n ≤ 999999999999 := hn.2
  have n5 : ¬ 8 ≤ pa := by omega
  have n6 : (pa == 8) = false := by rw [beq_eq_false_iff_ne]; omega
  have wp : IntKind.i64.wrap (pa + 1) = pa + 1 := by unfold partsP at hpa; exact w_i64 (by omega) (by omega)
  have hr0 := hr
  obtain ⟨r1, r2, r3, r4⟩ := hr0
  have hO : openG id cu ap rv cl ex 1 tm un pa = ap - rv - cl - ex := by simp only [openG, hz, if_true]
  simp only [relG]
  generalize hu : min n (ap - rv - cl - ex) = u
  have u0 : 0 ≤ u ∧ u ≤ ap - rv - cl - ex ∧ u ≤ n := by omega
  have wc : IntKind.i64.wrap (cl + u) = cl + u := w_i64 (by omega) (by omega)
  have hr2 : rngP ap rv (cl + u) ex := ⟨r1, r2, by omega, r4⟩
  have e2 : ap - rv - (cl + u) - ex = ap - rv - cl - ex - u := by omega
  have wr : IntKind.i64.wrap (rv + (ap - rv - cl - ex - u)) = rv + (ap - rv - cl - ex - u) := w_i64 (by omega) (by omega)
  have wf : IntKind.i64.wrap (ap - rv - cl - ex - u) = ap - rv - cl - ex - u := w_i64 (by omega) (by omega)
  have hr3 : rngP ap (rv + (ap - rv - cl - ex - u)) (cl + u) ex := ⟨r1, by omega, by omega, r4⟩
  have e3 : ap - (rv + (ap - rv - cl - ex - u)) - (cl + u) - ex = 0 := by omega
  have hm : (if ap - rv - cl - ex < n then ap - rv - cl - ex else n) = u := by omega
  have wv : IntKind.i64.wrap rv = rv := w_i64 (by omega) (by omega)
  cases fi
  all_goals simp (maxDischargeDepth := 16) only [argE_nil, argE_cons, ↓vmD, vmV, vmStd, Nat.reduceMul, ↓reduceIte, Nat.reduceAdd, Nat.reduceSub, Nat.reduceEqDiff, Nat.reduceLT, Nat.reduceLeDiff, reduceCtorEq, Int.reduceToNat, Int.reduceLT, Int.reduceLE, Int.reduceEq, Int.reduceNeg, Int.reduceBEq, Int.reduceBNe, String.reduceEq, forall_const, ↓vmDA, vmVA, ↓vmQA, vmR, vmRA, ↓vmSA, vmSV, tyS, nuE, slIndexByte_v, indexByte_v, indexRune_v, containsRune_v, classOf_v, isWordByte_v, letter_v, digit_v, wordAt_v, rword_v, isName_v, risName_v, recId_v, authId_v, rId13_v, rId27_v, moneyCur_v, authCur_v, rCur27_v, rCur01_v, isPart_v, authCheck_v, inTotal_v, rwithin1_v, exCard_v, recCheck_v, rrecCheck_v, within27_v, rauthCheck_v, fundsA_v, settledA_v, state27A_v, authOpen_v, rauthOpen_v, authUsable_v, rauthUsable_v, hz, h1, h2, hr, hr2, hr3, n1, n2, n3, n4, n5, n6, wp, hm, wc, wr, wf, e2, e3, hO, Int.add_zero, wv, Int.sub_self, Int.sub_zero]
theorem authClear_v (id cu : ByteArray) (ap rv cl ex st tm un pa : Int) (n : Int) (fi : Bool) (h1 : id.size ≤ 100000) (h2 : cu.size ≤ 100000) (hz : chkG id cu ap rv cl ex st tm un pa = 0) (hs : st = 1) (hn : 1 ≤ n ∧ n ≤ 999999999999) (hp : pa < 8) (A_ : AH) : valA Try.prog 29 #[.agg #[.string id, .string cu, .int .i64 ap, .int .i64 rv, .int .i64 cl, .int .i64 ex, .int .i64 st, .int .i64 tm, .int .i64 un, .int .i64 pa], .int .i64 n, .bool fi] A_ = some (.tuple #[.agg #[.string id, .string cu, .int .i64 ap, .int .i64 (rv + relG (ap - rv - cl - ex) n fi), .int .i64 (cl + min n (ap - rv - cl - ex)), .int .i64 ex, .int .i64 (stF (ap - rv - cl - ex - min n (ap - rv - cl - ex) - relG (ap - rv - cl - ex) n fi) ex (cl + min n (ap - rv - cl - ex))), .int .i64 tm, .int .i64 un, .int .i64 (pa + 1)], .int .i64 (min n (ap - rv - cl - ex)), .int .i64 (relG (ap - rv - cl - ex) n fi), .int .i64 0]) := valA_eq (pureA_of (by kernel_rfl) (authClear_h id cu ap rv cl ex st tm un pa n fi h1 h2 hz hs hn hp))
theorem rauthClear_h (id cu : ByteArray) (ap rv cl ex st tm un pa : Int) (n : Int) (fi : Bool) (h1 : id.size ≤ 100000) (h2 : cu.size ≤ 100000) (hz : chkG id cu ap rv cl ex st tm un pa = 0) (hs : st = 1) (hn : 1 ≤ n ∧ n ≤ 999999999999) (hp : pa < 8) : CallA Try.prog 33 #[.agg #[.string id, .string cu, .int .i64 ap, .int .i64 rv, .int .i64 cl, .int .i64 ex, .int .i64 st, .int .i64 tm, .int .i64 un, .int .i64 pa], .int .i64 n, .bool fi] [] (fun u_ _ => u_ = .tuple #[.agg #[.string id, .string cu, .int .i64 ap, .int .i64 (rv + relG (ap - rv - cl - ex) n fi), .int .i64 (cl + min n (ap - rv - cl - ex)), .int .i64 ex, .int .i64 (stF (ap - rv - cl - ex - min n (ap - rv - cl - ex) - relG (ap - rv - cl - ex) n fi) ex (cl + min n (ap - rv - cl - ex))), .int .i64 tm, .int .i64 un, .int .i64 (pa + 1)], .int .i64 (min n (ap - rv - cl - ex)), .int .i64 (relG (ap - rv - cl - ex) n fi), .int .i64 0]) := by
  refine callA_of_denA ⟨Try.prog, 33, Try.f33, 56, [0, 1, 2, 3, 6, 7, 8, 9, 10, 11, 12], [], [], _⟩ (args := [_, _, _]) Try.func33 rfl (by kernel_rfl) Try.ntmps33 (by simp) (by kernel_rfl) ?_
  intro ν fr; have nuE := fr.nu
  subst hs
  obtain ⟨hid, hcu, hr, hf, hti, hpa, hst⟩ := chk_zero hz
  have n1 : ¬ n < 1 := by omega
  have n2 : ¬ 999999999999 < n := by omega
  have n3 : 1 ≤ n := hn.1
  have n4 : n ≤ 999999999999 := hn.2
  have n5 : ¬ 8 ≤ pa := by omega
  have n6 : (pa == 8) = false := by rw [beq_eq_false_iff_ne]; omega
  have wp : IntKind.i64.wrap (pa + 1) = pa + 1 := by unfold partsP at hpa; exact w_i64 (by omega) (by omega)
  have hr0 := hr
  obtain ⟨r1, r2, r3, r4⟩ := hr0
  have hO : openG id cu ap rv cl ex 1 tm un pa = ap - rv - cl - ex := by simp only [openG, hz, if_true]
  simp only [relG]
  generalize hu : min n (ap - rv - cl - ex) = u
  have u0 : 0 ≤ u ∧ u ≤ ap - rv - cl - ex ∧ u ≤ n := by omega
  have wc : IntKind.i64.wrap (cl + u) = cl + u := w_i64 (by omega) (by omega)
  have hr2 : rngP ap rv (cl + u) ex := ⟨r1, r2, by omega, r4⟩
  have e2 : ap - rv - (cl + u) - ex = ap - rv - cl - ex - u := by omega
  have wr : IntKind.i64.wrap (rv + (ap - rv - cl - ex - u)) = rv + (ap - rv - cl - ex - u) := w_i64 (by omega) (by omega)
  have wf : IntKind.i64.wrap (ap - rv - cl - ex - u) = ap - rv - cl - ex - u := w_i64 (by omega) (by omega)
  have hr3 : rngP ap (rv + (ap - rv - cl - ex - u)) (cl + u) ex := ⟨r1, by omega, by omega, r4⟩
  have e3 : ap - (rv + (ap - rv - cl - ex - u)) - (cl + u) - ex = 0 := by omega
  have hm : (if ap - rv - cl - ex < n then ap - rv - cl - ex else n) = u := by omega
  have wv : IntKind.i64.wrap rv = rv := w_i64 (by omega) (by omega)
  cases fi
  all_goals simp (maxDischargeDepth := 16) only [argE_nil, argE_cons, ↓vmD, vmV, vmStd, Nat.reduceMul, ↓reduceIte, Nat.reduceAdd, Nat.reduceSub, Nat.reduceEqDiff, Nat.reduceLT, Nat.reduceLeDiff, reduceCtorEq, Int.reduceToNat, Int.reduceLT, Int.reduceLE, Int.reduceEq, Int.reduceNeg, Int.reduceBEq, Int.reduceBNe, String.reduceEq, forall_const, ↓vmDA, vmVA, ↓vmQA, vmR, vmRA, ↓vmSA, vmSV, tyS, nuE, slIndexByte_v, indexByte_v, indexRune_v, containsRune_v, classOf_v, isWordByte_v, letter_v, digit_v, wordAt_v, rword_v, isName_v, risName_v, recId_v, authId_v, rId13_v, rId27_v, moneyCur_v, authCur_v, rCur27_v, rCur01_v, isPart_v, authCheck_v, inTotal_v, rwithin1_v, exCard_v, recCheck_v, rrecCheck_v, within27_v, rauthCheck_v, fundsA_v, settledA_v, state27A_v, authOpen_v, rauthOpen_v, authUsable_v, rauthUsable_v, authClear_v, hz, h1, h2, hr, hr2, hr3, n1, n2, n3, n4, n5, n6, wp, hm, wc, wr, wf, e2, e3, hO, Int.add_zero, wv, Int.sub_self, Int.sub_zero]
theorem rauthClear_v (id cu : ByteArray) (ap rv cl ex st tm un pa : Int) (n : Int) (fi : Bool) (h1 : id.size ≤ 100000) (h2 : cu.size ≤ 100000) (hz : chkG id cu ap rv cl ex st tm un pa = 0) (hs : st = 1) (hn : 1 ≤ n ∧ n ≤ 999999999999) (hp : pa < 8) (A_ : AH) : valA Try.prog 33 #[.agg #[.string id, .string cu, .int .i64 ap, .int .i64 rv, .int .i64 cl, .int .i64 ex, .int .i64 st, .int .i64 tm, .int .i64 un, .int .i64 pa], .int .i64 n, .bool fi] A_ = some (.tuple #[.agg #[.string id, .string cu, .int .i64 ap, .int .i64 (rv + relG (ap - rv - cl - ex) n fi), .int .i64 (cl + min n (ap - rv - cl - ex)), .int .i64 ex, .int .i64 (stF (ap - rv - cl - ex - min n (ap - rv - cl - ex) - relG (ap - rv - cl - ex) n fi) ex (cl + min n (ap - rv - cl - ex))), .int .i64 tm, .int .i64 un, .int .i64 (pa + 1)], .int .i64 (min n (ap - rv - cl - ex)), .int .i64 (relG (ap - rv - cl - ex) n fi), .int .i64 0]) := valA_eq (pureA_of (by kernel_rfl) (rauthClear_h id cu ap rv cl ex st tm un pa n fi h1 h2 hz hs hn hp))
end Go.Proofs.Ythahheeahdhepaa
