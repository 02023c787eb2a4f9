/-
Stand-in: the walk of StandinNobody.
Conditions: none.
-/
import Derived.Test.YtmjkjpjjckcihaaStF
namespace Go.Proofs.Ytmjkjpjjckcihaa
open Go.Vm
set_option linter.unusedSimpArgs false
set_option linter.unusedVariables false
set_option maxHeartbeats 2000000
set_option maxRecDepth 20000
theorem nilDecide_h (n m : Int) (a b c : ByteArray) : CallA Try.prog 12 #[.pointer none, .int .i64 n, .string a, .string b, .string c, .int .i64 m] [] (fun u_ _ => u_ = .tuple #[.bool false, .int .i64 6]) := by
  refine callA_of_denA ⟨Try.prog, 12, Try.f12, 87, [0, 1, 2, 3, 4, 5, 12, 13, 14, 16, 17, 18], [], [], _⟩ (args := [_, _, _, _, _, _]) Try.func12 rfl (by kernel_rfl) Try.ntmps12 (by simp) (by kernel_rfl) ?_
  intro ν fr; have nuE := fr.nu
  simp (maxDischargeDepth := 16) only [argE_nil, argE_cons, ↓vmD, vmV, vmStd, Nat.reduceMul, ↓reduceIte, Nat.reduceAdd, Nat.reduceSub, Nat.reduceEqDiff, Nat.reduceLT, Nat.reduceLeDiff, reduceCtorEq, Int.reduceToNat, Int.reduceLT, Int.reduceLE, Int.reduceEq, Int.reduceNeg, Int.reduceBEq, Int.reduceBNe, String.reduceEq, forall_const, ↓vmDA, vmVA, ↓vmQA, vmR, vmRA, ↓vmSA, vmSV, tyS, nuE, SubA.skip, SubA.refl, fr.2, areDigits_v, panSum_v, rdigits_v, rsum_v, panLuhn_v, rLuhn_v, panCheck_v, rCheck_v, calIsDate_v, calDay_v, stLim_v, slIndexByte_v, indexByte_v, indexRune_v, containsRune_v, classOf_v, isWordByte_v, letter_v, digit_v, wordAt_v, rword_v, isName_v, risName_v, awk_v]
theorem nilDecide_v (n m : Int) (a b c : ByteArray) (A_ : AH) : valA Try.prog 12 #[.pointer none, .int .i64 n, .string a, .string b, .string c, .int .i64 m] A_ = some (.tuple #[.bool false, .int .i64 6]) := valA_eq (pureA_of (by kernel_rfl) (nilDecide_h n m a b c))
theorem nilUsed_h (n : Int) (a : ByteArray) : CallA Try.prog 20 #[.pointer none, .string a, .int .i64 n] [] (fun u_ _ => u_ = .tuple #[.int .i64 0, .int .i64 0]) := by
  refine callA_of_denA ⟨Try.prog, 20, Try.f20, 63, [0, 1, 2, 6, 7, 8, 9, 11, 17, 18, 19], [], [], _⟩ (args := [_, _, _]) Try.func20 rfl (by kernel_rfl) Try.ntmps20 (by simp) (by kernel_rfl) ?_
  intro ν fr; have nuE := fr.nu
  simp (maxDischargeDepth := 16) only [argE_nil, argE_cons, ↓vmD, vmV, vmStd, Nat.reduceMul, ↓reduceIte, Nat.reduceAdd, Nat.reduceSub, Nat.reduceEqDiff, Nat.reduceLT, Nat.reduceLeDiff, reduceCtorEq, Int.reduceToNat, Int.reduceLT, Int.reduceLE, Int.reduceEq, Int.reduceNeg, Int.reduceBEq, Int.reduceBNe, String.reduceEq, forall_const, ↓vmDA, vmVA, ↓vmQA, vmR, vmRA, ↓vmSA, vmSV, tyS, nuE, SubA.skip, SubA.refl, fr.2, areDigits_v, panSum_v, rdigits_v, rsum_v, panLuhn_v, rLuhn_v, panCheck_v, rCheck_v, calIsDate_v, calDay_v, stLim_v, slIndexByte_v, indexByte_v, indexRune_v, containsRune_v, classOf_v, isWordByte_v, letter_v, digit_v, wordAt_v, rword_v, isName_v, risName_v, awk_v, nilDecide_v]
theorem nilUsed_v (n : Int) (a : ByteArray) (A_ : AH) : valA Try.prog 20 #[.pointer none, .string a, .int .i64 n] A_ = some (.tuple #[.int .i64 0, .int .i64 0]) := valA_eq (pureA_of (by kernel_rfl) (nilUsed_h n a))
theorem nilDecision_h (a : ByteArray) : CallA Try.prog 18 #[.pointer none, .string a] [] (fun u_ _ => u_ = .tuple #[.bool false, .bool false]) := by
  refine callA_of_denA ⟨Try.prog, 18, Try.f18, 26, [0, 1, 4, 5, 6], [], [], _⟩ (args := [_, _]) Try.func18 rfl (by kernel_rfl) Try.ntmps18 (by simp) (by kernel_rfl) ?_
  intro ν fr; have nuE := fr.nu
  simp (maxDischargeDepth := 16) only [argE_nil, argE_cons, ↓vmD, vmV, vmStd, Nat.reduceMul, ↓reduceIte, Nat.reduceAdd, Nat.reduceSub, Nat.reduceEqDiff, Nat.reduceLT, Nat.reduceLeDiff, reduceCtorEq, Int.reduceToNat, Int.reduceLT, Int.reduceLE, Int.reduceEq, Int.reduceNeg, Int.reduceBEq, Int.reduceBNe, String.reduceEq, forall_const, ↓vmDA, vmVA, ↓vmQA, vmR, vmRA, ↓vmSA, vmSV, tyS, nuE, SubA.skip, SubA.refl, fr.2, areDigits_v, panSum_v, rdigits_v, rsum_v, panLuhn_v, rLuhn_v, panCheck_v, rCheck_v, calIsDate_v, calDay_v, stLim_v, slIndexByte_v, indexByte_v, indexRune_v, containsRune_v, classOf_v, isWordByte_v, letter_v, digit_v, wordAt_v, rword_v, isName_v, risName_v, awk_v, nilDecide_v, nilUsed_v]
theorem nilDecision_v (a : ByteArray) (A_ : AH) : valA Try.prog 18 #[.pointer none, .string a] A_ = some (.tuple #[.bool false, .bool false]) := valA_eq (pureA_of (by kernel_rfl) (nilDecision_h a))
theorem nilReverse_h (a : ByteArray) : CallA Try.prog 14 #[.pointer none, .string a] [] (fun u_ _ => u_ = .int .i64 6) := by
  refine callA_of_denA ⟨Try.prog, 14, Try.f14, 39, [0, 1, 4, 5, 6], [], [], _⟩ (args := [_, _]) Try.func14 rfl (by kernel_rfl) Try.ntmps14 (by simp) (by kernel_rfl) ?_
  intro ν fr; have nuE := fr.nu
  simp (maxDischargeDepth := 16) only [argE_nil, argE_cons, ↓vmD, vmV, vmStd, Nat.reduceMul, ↓reduceIte, Nat.reduceAdd, Nat.reduceSub, Nat.reduceEqDiff, Nat.reduceLT, Nat.reduceLeDiff, reduceCtorEq, Int.reduceToNat, Int.reduceLT, Int.reduceLE, Int.reduceEq, Int.reduceNeg, Int.reduceBEq, Int.reduceBNe, String.reduceEq, forall_const, ↓vmDA, vmVA, ↓vmQA, vmR, vmRA, ↓vmSA, vmSV, tyS, nuE, SubA.skip, SubA.refl, fr.2, areDigits_v, panSum_v, rdigits_v, rsum_v, panLuhn_v, rLuhn_v, panCheck_v, rCheck_v, calIsDate_v, calDay_v, stLim_v, slIndexByte_v, indexByte_v, indexRune_v, containsRune_v, classOf_v, isWordByte_v, letter_v, digit_v, wordAt_v, rword_v, isName_v, risName_v, awk_v, nilDecide_v, nilUsed_v, nilDecision_v]
theorem nilReverse_v (a : ByteArray) (A_ : AH) : valA Try.prog 14 #[.pointer none, .string a] A_ = some (.int .i64 6) := valA_eq (pureA_of (by kernel_rfl) (nilReverse_h a))
theorem nilAck_h (a : ByteArray) : CallA Try.prog 16 #[.pointer none, .string a] [] (fun u_ _ => u_ = .int .i64 6) := by
  refine callA_of_denA ⟨Try.prog, 16, Try.f16, 21, [0, 1, 4], [], [], _⟩ (args := [_, _]) Try.func16 rfl (by kernel_rfl) Try.ntmps16 (by simp) (by kernel_rfl) ?_
  intro ν fr; have nuE := fr.nu
  simp (maxDischargeDepth := 16) only [argE_nil, argE_cons, ↓vmD, vmV, vmStd, Nat.reduceMul, ↓reduceIte, Nat.reduceAdd, Nat.reduceSub, Nat.reduceEqDiff, Nat.reduceLT, Nat.reduceLeDiff, reduceCtorEq, Int.reduceToNat, Int.reduceLT, Int.reduceLE, Int.reduceEq, Int.reduceNeg, Int.reduceBEq, Int.reduceBNe, String.reduceEq, forall_const, ↓vmDA, vmVA, ↓vmQA, vmR, vmRA, ↓vmSA, vmSV, tyS, nuE, SubA.skip, SubA.refl, fr.2, areDigits_v, panSum_v, rdigits_v, rsum_v, panLuhn_v, rLuhn_v, panCheck_v, rCheck_v, calIsDate_v, calDay_v, stLim_v, slIndexByte_v, indexByte_v, indexRune_v, containsRune_v, classOf_v, isWordByte_v, letter_v, digit_v, wordAt_v, rword_v, isName_v, risName_v, awk_v, nilDecide_v, nilUsed_v, nilDecision_v, nilReverse_v]
theorem nilAck_v (a : ByteArray) (A_ : AH) : valA Try.prog 16 #[.pointer none, .string a] A_ = some (.int .i64 6) := valA_eq (pureA_of (by kernel_rfl) (nilAck_h a))
theorem nilWaiting_h (a : ByteArray) : CallA Try.prog 23 #[.pointer none, .string a] [] (fun u_ _ => u_ = .slice none 0 0) := by
  refine callA_of_denA ⟨Try.prog, 23, Try.f23, 47, [0, 1, 4, 5, 7, 13, 14, 15], [], [(7, .q false)], _⟩ (args := [_, _]) Try.func23 rfl (by kernel_rfl) Try.ntmps23 (by simp) (by kernel_rfl) ?_
  intro ν fr; have nuE := fr.nu
  simp (maxDischargeDepth := 16) only [argE_nil, argE_cons, ↓vmD, vmV, vmStd, Nat.reduceMul, ↓reduceIte, Nat.reduceAdd, Nat.reduceSub, Nat.reduceEqDiff, Nat.reduceLT, Nat.reduceLeDiff, reduceCtorEq, Int.reduceToNat, Int.reduceLT, Int.reduceLE, Int.reduceEq, Int.reduceNeg, Int.reduceBEq, Int.reduceBNe, String.reduceEq, forall_const, ↓vmDA, vmVA, ↓vmQA, vmR, vmRA, ↓vmSA, vmSV, tyS, nuE, SubA.skip, SubA.refl, fr.2, areDigits_v, panSum_v, rdigits_v, rsum_v, panLuhn_v, rLuhn_v, panCheck_v, rCheck_v, calIsDate_v, calDay_v, stLim_v, slIndexByte_v, indexByte_v, indexRune_v, containsRune_v, classOf_v, isWordByte_v, letter_v, digit_v, wordAt_v, rword_v, isName_v, risName_v, awk_v, nilDecide_v, nilUsed_v, nilDecision_v, nilReverse_v, nilAck_v]
theorem nilWaiting_v (a : ByteArray) (A_ : AH) : valA Try.prog 23 #[.pointer none, .string a] A_ = some (.slice none 0 0) := valA_eq (pureA_of (by kernel_rfl) (nilWaiting_h a))
theorem nobodyLaw_h (k t m : Int) (a b c : ByteArray) : CallA Try.prog 6 #[.agg #[.int .i64 k, .int .i64 t, .string a, .string b, .string c, .int .i64 m]] [] (fun u_ _ => u_ = .bool true) := by
  refine callA_of_denA ⟨Try.prog, 6, Try.f6, 88, [0, 1, 2, 3, 4, 5, 6, 7, 8, 9], [], [], _⟩ (args := [_]) Try.func6 rfl (by kernel_rfl) Try.ntmps6 (by simp) (by kernel_rfl) ?_
  intro ν fr; have nuE := fr.nu
  simp (maxDischargeDepth := 16) only [argE_nil, argE_cons, ↓vmD, vmV, vmStd, Nat.reduceMul, ↓reduceIte, Nat.reduceAdd, Nat.reduceSub, Nat.reduceEqDiff, Nat.reduceLT, Nat.reduceLeDiff, reduceCtorEq, Int.reduceToNat, Int.reduceLT, Int.reduceLE, Int.reduceEq, Int.reduceNeg, Int.reduceBEq, Int.reduceBNe, String.reduceEq, forall_const, ↓vmDA, vmVA, ↓vmQA, vmR, vmRA, ↓vmSA, vmSV, tyS, nuE, SubA.skip, SubA.refl, fr.2, areDigits_v, panSum_v, rdigits_v, rsum_v, panLuhn_v, rLuhn_v, panCheck_v, rCheck_v, calIsDate_v, calDay_v, stLim_v, slIndexByte_v, indexByte_v, indexRune_v, containsRune_v, classOf_v, isWordByte_v, letter_v, digit_v, wordAt_v, rword_v, isName_v, risName_v, awk_v, nilDecide_v, nilUsed_v, nilDecision_v, nilReverse_v, nilAck_v, nilWaiting_v]
theorem nobodyLaw_v (k t m : Int) (a b c : ByteArray) (A_ : AH) : valA Try.prog 6 #[.agg #[.int .i64 k, .int .i64 t, .string a, .string b, .string c, .int .i64 m]] A_ = some (.bool true) := valA_eq (pureA_of (by kernel_rfl) (nobodyLaw_h k t m a b c))
theorem callsH_of_pure {P : Program} {g : FuncId} {args : Array Value} {A : AH} {v : Value} (hv : valA P g args A = some v) (hc : callable P g = true) {h : Heap} (hs : Sat A h) : CallsH P g args h fun e h' => e = .returned v ∧ Grew h h' := by
  have := (valA_out hv).2 h hs
  unfold RunC at this
  rwa [if_pos hc] at this
theorem nobody_walk (h : Heap) (a0 : Array Value) (w0 : Vm.Fits h ((.st 6 [(0, 1, .int .i64), (1, 1, .int .i64), (2, 1, .str), (3, 1, .str), (4, 1, .str), (5, 1, .int .i64)])) a0.toList) : CallsH Try.prog 6 #[.agg a0] h fun e h' => e = .returned (.bool true) ∧ Grew h h' := by
  obtain ⟨l⟩ := a0
  simp only [Fits, FitsL] at w0
  obtain ⟨hl, w0⟩ := w0
  match l, hl with
  | [x0, x1, x2, x3, x4, x5], _ =>
    simp only [List.drop_succ_cons, List.drop_zero, List.take_succ_cons, List.take_zero, List.cons.injEq, and_true, List.length_cons, List.length_nil, true_and] at w0
    obtain ⟨⟨k, rfl, _⟩, ⟨t, rfl, _⟩, ⟨a, rfl, _⟩, ⟨b, rfl, _⟩, ⟨c, rfl, _⟩, ⟨m, rfl, _⟩⟩ := w0
    exact callsH_of_pure (nobodyLaw_v k t m a b c []) (by kernel_rfl) (Sat.nil h)
end Go.Proofs.Ytmjkjpjjckcihaa
