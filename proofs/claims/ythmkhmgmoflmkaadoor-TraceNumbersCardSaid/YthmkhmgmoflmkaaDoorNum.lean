/-
Trace: sources, and TraceNumbers' walk.
Conditions: none.
-/
import Derived.Test.YthmkhmgmoflmkaaDoorRefs
namespace Go.Proofs.YthmkhmgmoflmkaaDoor
open Go.Vm
set_option linter.unusedSimpArgs false
set_option linter.unusedVariables false
set_option maxHeartbeats 2000000
set_option maxRecDepth 20000
def dayO (a : Int) : Option Nat := if 0 ≤ a ∧ a ≤ 1099511627776 ∧ a / 86400 ≤ 99999 then some (a / 86400).toNat else none
def dayV (a : Int) : Value := match dayO a with | some d => .tuple #[.int .i64 (d : Int), .int .i64 (a % 86400)] | none => .tuple #[.int .i64 (-1), .int .i64 (-1)]
theorem isDateC_h (d : Int) : CallA Tryd.prog 45 #[.int .i64 d] [] (fun u_ _ => u_ = .bool (decide (0 ≤ d) && decide (d ≤ 99999))) := by
  refine callA_of_denA ⟨Tryd.prog, 45, Tryd.f45, 9, [0, 2], [], [], _⟩ (args := [_]) Tryd.func45 rfl (by kernel_rfl) Tryd.ntmps45 (by simp) (by kernel_rfl) ?_
  intro ν fr; have nuE := fr.nu
  simp (maxDischargeDepth := 16) only [argE_nil, argE_cons, ↓vmD, vmV, vmStd, Nat.reduceMul, ↓reduceIte, Nat.reduceAdd, Nat.reduceSub, Nat.reduceEqDiff, Nat.reduceLT, Nat.reduceLeDiff, reduceCtorEq, Int.reduceToNat, Int.reduceLT, Int.reduceLE, Int.reduceEq, Int.reduceNeg, Int.reduceBEq, Int.reduceBNe, String.reduceEq, forall_const, ↓vmDA, vmVA, ↓vmQA, vmR, vmRA, ↓vmSA, vmSV, tyS, nuE, digits03_v, isDate03_v, rreference_v, valueOf_v, rvalue_v, split_v, rsplit_v]
theorem isDateC_v (d : Int) (A_ : AH) : valA Tryd.prog 45 #[.int .i64 d] A_ = some (.bool (decide (0 ≤ d) && decide (d ≤ 99999))) := valA_eq (pureA_of (by kernel_rfl) (isDateC_h d))
theorem day_facts (a : Int) (h0 : 0 ≤ a) (h1 : a ≤ 1099511627776) : IntKind.i64.wrap (a.tdiv 86400) = a / 86400 ∧ a.tmod 86400 = a % 86400 ∧ 0 ≤ a / 86400 := by
  rw [Int.tdiv_eq_ediv_of_nonneg h0, Int.tmod_eq_emod_of_nonneg h0]
  exact ⟨w_i64 (by omega) (by omega), rfl, by omega⟩
theorem day_h (a : Int) : CallA Tryd.prog 37 #[.int .i64 a] [] (fun u_ _ => u_ = dayV a) := by
  refine callA_of_denA ⟨Tryd.prog, 37, Tryd.f37, 20, [0, 2, 3], [], [], _⟩ (args := [_]) Tryd.func37 rfl (by kernel_rfl) Tryd.ntmps37 (by simp) (by kernel_rfl) ?_
  intro ν fr; have nuE := fr.nu
  by_cases h0 : a < 0
  · have hv : dayV a = .tuple #[.int .i64 (-1), .int .i64 (-1)] := by unfold dayV dayO; rw [if_neg (by omega)]
    rw [hv]
    simp (maxDischargeDepth := 16) only [argE_nil, argE_cons, ↓vmD, vmV, vmStd, Nat.reduceMul, ↓reduceIte, Nat.reduceAdd, Nat.reduceSub, Nat.reduceEqDiff, Nat.reduceLT, Nat.reduceLeDiff, reduceCtorEq, Int.reduceToNat, Int.reduceLT, Int.reduceLE, Int.reduceEq, Int.reduceNeg, Int.reduceBEq, Int.reduceBNe, String.reduceEq, forall_const, ↓vmDA, vmVA, ↓vmQA, vmR, vmRA, ↓vmSA, vmSV, tyS, nuE, digits03_v, isDate03_v, rreference_v, valueOf_v, rvalue_v, split_v, rsplit_v, isDateC_v, h0]
  · by_cases h1 : 1099511627776 < a
    · have hv : dayV a = .tuple #[.int .i64 (-1), .int .i64 (-1)] := by unfold dayV dayO; rw [if_neg (by omega)]
      rw [hv]
      simp (maxDischargeDepth := 16) only [argE_nil, argE_cons, ↓vmD, vmV, vmStd, Nat.reduceMul, ↓reduceIte, Nat.reduceAdd, Nat.reduceSub, Nat.reduceEqDiff, Nat.reduceLT, Nat.reduceLeDiff, reduceCtorEq, Int.reduceToNat, Int.reduceLT, Int.reduceLE, Int.reduceEq, Int.reduceNeg, Int.reduceBEq, Int.reduceBNe, String.reduceEq, forall_const, ↓vmDA, vmVA, ↓vmQA, vmR, vmRA, ↓vmSA, vmSV, tyS, nuE, digits03_v, isDate03_v, rreference_v, valueOf_v, rvalue_v, split_v, rsplit_v, isDateC_v, h0, h1]
    · obtain ⟨k1, k2, k3⟩ := day_facts a (by omega) (by omega)
      by_cases h2 : a / 86400 ≤ 99999
      · have hv : dayV a = .tuple #[.int .i64 (a / 86400), .int .i64 (a % 86400)] := by unfold dayV dayO; rw [if_pos (by omega)]; simp only [Int.toNat_of_nonneg k3]
        rw [hv]
        simp (maxDischargeDepth := 16) only [argE_nil, argE_cons, ↓vmD, vmV, vmStd, Nat.reduceMul, ↓reduceIte, Nat.reduceAdd, Nat.reduceSub, Nat.reduceEqDiff, Nat.reduceLT, Nat.reduceLeDiff, reduceCtorEq, Int.reduceToNat, Int.reduceLT, Int.reduceLE, Int.reduceEq, Int.reduceNeg, Int.reduceBEq, Int.reduceBNe, String.reduceEq, forall_const, ↓vmDA, vmVA, ↓vmQA, vmR, vmRA, ↓vmSA, vmSV, tyS, nuE, digits03_v, isDate03_v, rreference_v, valueOf_v, rvalue_v, split_v, rsplit_v, isDateC_v, h0, h1, k1, k2, k3, h2]
      · have hv : dayV a = .tuple #[.int .i64 (-1), .int .i64 (-1)] := by unfold dayV dayO; rw [if_neg (by omega)]
        rw [hv]
        simp (maxDischargeDepth := 16) only [argE_nil, argE_cons, ↓vmD, vmV, vmStd, Nat.reduceMul, ↓reduceIte, Nat.reduceAdd, Nat.reduceSub, Nat.reduceEqDiff, Nat.reduceLT, Nat.reduceLeDiff, reduceCtorEq, Int.reduceToNat, Int.reduceLT, Int.reduceLE, Int.reduceEq, Int.reduceNeg, Int.reduceBEq, Int.reduceBNe, String.reduceEq, forall_const, ↓vmDA, vmVA, ↓vmQA, vmR, vmRA, ↓vmSA, vmSV, tyS, nuE, digits03_v, isDate03_v, rreference_v, valueOf_v, rvalue_v, split_v, rsplit_v, isDateC_v, h0, h1, k1, k2, k3, h2]
theorem day_v (a : Int) (A_ : AH) : valA Tryd.prog 37 #[.int .i64 a] A_ = some (dayV a) := valA_eq (pureA_of (by kernel_rfl) (day_h a))
theorem rday_h (a : Int) : CallA Tryd.prog 38 #[.int .i64 a] [] (fun u_ _ => u_ = dayV a) := by
  refine callA_of_denA ⟨Tryd.prog, 38, Tryd.f38, 20, [0, 2, 3], [], [], _⟩ (args := [_]) Tryd.func38 rfl (by kernel_rfl) Tryd.ntmps38 (by simp) (by kernel_rfl) ?_
  intro ν fr; have nuE := fr.nu
  by_cases h0 : a < 0
  · have hv : dayV a = .tuple #[.int .i64 (-1), .int .i64 (-1)] := by unfold dayV dayO; rw [if_neg (by omega)]
    rw [hv]
    simp (maxDischargeDepth := 16) only [argE_nil, argE_cons, ↓vmD, vmV, vmStd, Nat.reduceMul, ↓reduceIte, Nat.reduceAdd, Nat.reduceSub, Nat.reduceEqDiff, Nat.reduceLT, Nat.reduceLeDiff, reduceCtorEq, Int.reduceToNat, Int.reduceLT, Int.reduceLE, Int.reduceEq, Int.reduceNeg, Int.reduceBEq, Int.reduceBNe, String.reduceEq, forall_const, ↓vmDA, vmVA, ↓vmQA, vmR, vmRA, ↓vmSA, vmSV, tyS, nuE, digits03_v, isDate03_v, rreference_v, valueOf_v, rvalue_v, split_v, rsplit_v, isDateC_v, day_v, h0]
  · by_cases h1 : 1099511627776 < a
    · have hv : dayV a = .tuple #[.int .i64 (-1), .int .i64 (-1)] := by unfold dayV dayO; rw [if_neg (by omega)]
      rw [hv]
      simp (maxDischargeDepth := 16) only [argE_nil, argE_cons, ↓vmD, vmV, vmStd, Nat.reduceMul, ↓reduceIte, Nat.reduceAdd, Nat.reduceSub, Nat.reduceEqDiff, Nat.reduceLT, Nat.reduceLeDiff, reduceCtorEq, Int.reduceToNat, Int.reduceLT, Int.reduceLE, Int.reduceEq, Int.reduceNeg, Int.reduceBEq, Int.reduceBNe, String.reduceEq, forall_const, ↓vmDA, vmVA, ↓vmQA, vmR, vmRA, ↓vmSA, vmSV, tyS, nuE, digits03_v, isDate03_v, rreference_v, valueOf_v, rvalue_v, split_v, rsplit_v, isDateC_v, day_v, h0, h1]
    · obtain ⟨k1, k2, k3⟩ := day_facts a (by omega) (by omega)
      by_cases h2 : a / 86400 ≤ 99999
      · have hv : dayV a = .tuple #[.int .i64 (a / 86400), .int .i64 (a % 86400)] := by unfold dayV dayO; rw [if_pos (by omega)]; simp only [Int.toNat_of_nonneg k3]
        rw [hv]
        simp (maxDischargeDepth := 16) only [argE_nil, argE_cons, ↓vmD, vmV, vmStd, Nat.reduceMul, ↓reduceIte, Nat.reduceAdd, Nat.reduceSub, Nat.reduceEqDiff, Nat.reduceLT, Nat.reduceLeDiff, reduceCtorEq, Int.reduceToNat, Int.reduceLT, Int.reduceLE, Int.reduceEq, Int.reduceNeg, Int.reduceBEq, Int.reduceBNe, String.reduceEq, forall_const, ↓vmDA, vmVA, ↓vmQA, vmR, vmRA, ↓vmSA, vmSV, tyS, nuE, digits03_v, isDate03_v, rreference_v, valueOf_v, rvalue_v, split_v, rsplit_v, isDateC_v, day_v, h0, h1, k1, k2, k3, h2]
      · have hv : dayV a = .tuple #[.int .i64 (-1), .int .i64 (-1)] := by unfold dayV dayO; rw [if_neg (by omega)]
        rw [hv]
        simp (maxDischargeDepth := 16) only [argE_nil, argE_cons, ↓vmD, vmV, vmStd, Nat.reduceMul, ↓reduceIte, Nat.reduceAdd, Nat.reduceSub, Nat.reduceEqDiff, Nat.reduceLT, Nat.reduceLeDiff, reduceCtorEq, Int.reduceToNat, Int.reduceLT, Int.reduceLE, Int.reduceEq, Int.reduceNeg, Int.reduceBEq, Int.reduceBNe, String.reduceEq, forall_const, ↓vmDA, vmVA, ↓vmQA, vmR, vmRA, ↓vmSA, vmSV, tyS, nuE, digits03_v, isDate03_v, rreference_v, valueOf_v, rvalue_v, split_v, rsplit_v, isDateC_v, day_v, h0, h1, k1, k2, k3, h2]
theorem rday_v (a : Int) (A_ : AH) : valA Tryd.prog 38 #[.int .i64 a] A_ = some (dayV a) := valA_eq (pureA_of (by kernel_rfl) (rday_h a))
def nextV (b last : Nat) (a : Int) : Value := match dayO a with
  | none => .tuple #[.int .i64 0, .string ⟨#[]⟩, .int .i64 14]
  | some d => .tuple #[.int .i64 ((last % 999999 + 1 : Nat) : Int), .string (bs (refL d b ((last % 999999 + 1 : Nat) : Int))), .int .i64 0]
def nextN (last : Nat) (a : Int) : Nat := match dayO a with | none => last | some _ => last % 999999 + 1
theorem dayO_le {a : Int} {d : Nat} (h : dayO a = some d) : d ≤ 99999 := by
  unfold dayO at h
  split at h
  · cases h; omega
  · cases h
theorem next_facts (last : Nat) (h : last ≤ 999999) : ((last : Int).tmod 999999) = ((last % 999999 : Nat) : Int) ∧ IntKind.i64.wrap (((last % 999999 : Nat) : Int) + 1) = ((last % 999999 + 1 : Nat) : Int) := by
  rw [Int.tmod_eq_emod_of_nonneg (by omega)]
  exact ⟨by omega, by rw [w_i64 (by omega) (by omega)]; omega⟩
theorem nextS_h (X : AH) (hT : TabA X) (sb b last : Nat) (a : Int) (hsb : Vm.look X sb = none) (hb : b ≤ 9) (hl : last ≤ 999999) : CallA Tryd.prog 25 #[.pointer (some ⟨sb, 0, none⟩), .int .i64 a] ((sb, .cells #[.int .i64 (b : Int), .int .i64 (last : Int)] 82) :: X) (fun u_ A_ => u_ = nextV b last a ∧ SubA ((sb, .cells #[.int .i64 (b : Int), .int .i64 (nextN last a : Int)] 82) :: X) A_) := by
  refine callA_of_denA ⟨Tryd.prog, 25, Tryd.f25, 46, [0, 1, 4, 5, 6, 7, 9, 10, 11], [], [], _⟩ (args := [_, _]) Tryd.func25 rfl (by kernel_rfl) Tryd.ntmps25 (by simp) (by kernel_rfl) ?_
  intro ν fr; have nuE := fr.nu
  obtain ⟨k1, k2⟩ := next_facts last hl
  cases hd : dayO a with
  | none =>
    have e1 : dayV a = .tuple #[.int .i64 (-1), .int .i64 (-1)] := by unfold dayV; rw [hd]
    have e2 : nextV b last a = .tuple #[.int .i64 0, .string ⟨#[]⟩, .int .i64 14] := by unfold nextV; rw [hd]
    have e3 : nextN last a = last := by unfold nextN; rw [hd]
    rw [e2, e3]
    simp (maxDischargeDepth := 16) only [argE_nil, argE_cons, ↓vmD, vmV, vmStd, Nat.reduceMul, ↓reduceIte, Nat.reduceAdd, Nat.reduceSub, Nat.reduceEqDiff, Nat.reduceLT, Nat.reduceLeDiff, reduceCtorEq, Int.reduceToNat, Int.reduceLT, Int.reduceLE, Int.reduceEq, Int.reduceNeg, Int.reduceBEq, Int.reduceBNe, String.reduceEq, forall_const, ↓vmDA, vmVA, ↓vmQA, vmR, vmRA, ↓vmSA, vmSV, tyS, nuE, SubA.skip, SubA.refl, fr.2, digits03_v, isDate03_v, rreference_v, valueOf_v, rvalue_v, split_v, rsplit_v, isDateC_v, day_v, rday_v, e1]
  | some d =>
    have hd2 := dayO_le hd
    have e1 : dayV a = .tuple #[.int .i64 (d : Int), .int .i64 (a % 86400)] := by unfold dayV; rw [hd]
    have e2 : nextV b last a = .tuple #[.int .i64 ((last % 999999 + 1 : Nat) : Int), .string (bs (refL d b ((last % 999999 + 1 : Nat) : Int))), .int .i64 0] := by unfold nextV; rw [hd]
    have e3 : nextN last a = last % 999999 + 1 := by unfold nextN; rw [hd]
    have sX : SubA X ((sb, .cells #[.int .i64 (b : Int), .int .i64 (last : Int)] 82) :: X) := SubA.skip hsb (SubA.refl _)
    have rv : refV (d : Int) b ((last % 999999 + 1 : Nat) : Int) = .tuple #[.string (bs (refL d b ((last % 999999 + 1 : Nat) : Int))), .int .i64 0] := if_pos (by simp only [refO, Bool.and_eq_true, decide_eq_true_eq]; omega)
    have rf := fun B hB => (reference_w _ (hT.mono sX) (d : Int) (b : Int) ((last % 999999 + 1 : Nat) : Int) B hB).trans (congrArg some rv)
    have d0 : ((d : Int) < 0) = False := by simp
    rw [e2, e3]
    simp (maxDischargeDepth := 16) only [argE_nil, argE_cons, ↓vmD, vmV, vmStd, Nat.reduceMul, ↓reduceIte, Nat.reduceAdd, Nat.reduceSub, Nat.reduceEqDiff, Nat.reduceLT, Nat.reduceLeDiff, reduceCtorEq, Int.reduceToNat, Int.reduceLT, Int.reduceLE, Int.reduceEq, Int.reduceNeg, Int.reduceBEq, Int.reduceBNe, String.reduceEq, forall_const, ↓vmDA, vmVA, ↓vmQA, vmR, vmRA, ↓vmSA, vmSV, tyS, nuE, SubA.skip, SubA.refl, fr.2, digits03_v, isDate03_v, rreference_v, valueOf_v, rvalue_v, split_v, rsplit_v, isDateC_v, day_v, rday_v, e1, d0, k1, k2, rf]

theorem rnextS_h (X : AH) (sb b last : Nat) (a : Int) (hsb : Vm.look X sb = none) (hb : b ≤ 9) (hl : last ≤ 999999) : CallA Tryd.prog 26 #[.pointer (some ⟨sb, 0, none⟩), .int .i64 a] ((sb, .cells #[.int .i64 (b : Int), .int .i64 (last : Int)] 84) :: X) (fun u_ A_ => u_ = nextV b last a ∧ SubA ((sb, .cells #[.int .i64 (b : Int), .int .i64 (nextN last a : Int)] 84) :: X) A_) := by
  refine callA_of_denA ⟨Tryd.prog, 26, Tryd.f26, 47, [0, 1, 4, 5, 6, 7, 9], [], [(7, .q false)], _⟩ (args := [_, _]) Tryd.func26 rfl (by kernel_rfl) Tryd.ntmps26 (by simp) (by kernel_rfl) ?_
  intro ν fr; have nuE := fr.nu
  obtain ⟨k1, k2⟩ := next_facts last hl
  cases hd : dayO a with
  | none =>
    have e1 : dayV a = .tuple #[.int .i64 (-1), .int .i64 (-1)] := by unfold dayV; rw [hd]
    have e2 : nextV b last a = .tuple #[.int .i64 0, .string ⟨#[]⟩, .int .i64 14] := by unfold nextV; rw [hd]
    have e3 : nextN last a = last := by unfold nextN; rw [hd]
    rw [e2, e3]
    simp (maxDischargeDepth := 16) only [argE_nil, argE_cons, ↓vmD, vmV, vmStd, Nat.reduceMul, ↓reduceIte, Nat.reduceAdd, Nat.reduceSub, Nat.reduceEqDiff, Nat.reduceLT, Nat.reduceLeDiff, reduceCtorEq, Int.reduceToNat, Int.reduceLT, Int.reduceLE, Int.reduceEq, Int.reduceNeg, Int.reduceBEq, Int.reduceBNe, String.reduceEq, forall_const, ↓vmDA, vmVA, ↓vmQA, vmR, vmRA, ↓vmSA, vmSV, tyS, nuE, SubA.skip, SubA.refl, fr.2, digits03_v, isDate03_v, rreference_v, valueOf_v, rvalue_v, split_v, rsplit_v, isDateC_v, day_v, rday_v, e1]
  | some d =>
    have hd2 := dayO_le hd
    have e1 : dayV a = .tuple #[.int .i64 (d : Int), .int .i64 (a % 86400)] := by unfold dayV; rw [hd]
    have e2 : nextV b last a = .tuple #[.int .i64 ((last % 999999 + 1 : Nat) : Int), .string (bs (refL d b ((last % 999999 + 1 : Nat) : Int))), .int .i64 0] := by unfold nextV; rw [hd]
    have e3 : nextN last a = last % 999999 + 1 := by unfold nextN; rw [hd]
    have rv : refV (d : Int) b ((last % 999999 + 1 : Nat) : Int) = .tuple #[.string (bs (refL d b ((last % 999999 + 1 : Nat) : Int))), .int .i64 0] := if_pos (by simp only [refO, Bool.and_eq_true, decide_eq_true_eq]; omega)
    have d0 : ((d : Int) < 0) = False := by simp
    rw [e2, e3]
    simp (maxDischargeDepth := 16) only [argE_nil, argE_cons, ↓vmD, vmV, vmStd, Nat.reduceMul, ↓reduceIte, Nat.reduceAdd, Nat.reduceSub, Nat.reduceEqDiff, Nat.reduceLT, Nat.reduceLeDiff, reduceCtorEq, Int.reduceToNat, Int.reduceLT, Int.reduceLE, Int.reduceEq, Int.reduceNeg, Int.reduceBEq, Int.reduceBNe, String.reduceEq, forall_const, ↓vmDA, vmVA, ↓vmQA, vmR, vmRA, ↓vmSA, vmSV, tyS, nuE, SubA.skip, SubA.refl, fr.2, digits03_v, isDate03_v, rreference_v, valueOf_v, rvalue_v, split_v, rsplit_v, isDateC_v, day_v, rday_v, e1, d0, k1, k2, rv]

theorem nextNil_h (a : Int) : CallA Tryd.prog 25 #[.pointer none, .int .i64 a] [] (fun u_ _ => u_ = .tuple #[.int .i64 0, .string ⟨#[]⟩, .int .i64 6]) := by
  refine callA_of_denA ⟨Tryd.prog, 25, Tryd.f25, 46, [0, 1, 4, 5, 6, 7, 9, 10, 11], [], [], _⟩ (args := [_, _]) Tryd.func25 rfl (by kernel_rfl) Tryd.ntmps25 (by simp) (by kernel_rfl) ?_
  intro ν fr; have nuE := fr.nu
  simp (maxDischargeDepth := 16) only [argE_nil, argE_cons, ↓vmD, vmV, vmStd, Nat.reduceMul, ↓reduceIte, Nat.reduceAdd, Nat.reduceSub, Nat.reduceEqDiff, Nat.reduceLT, Nat.reduceLeDiff, reduceCtorEq, Int.reduceToNat, Int.reduceLT, Int.reduceLE, Int.reduceEq, Int.reduceNeg, Int.reduceBEq, Int.reduceBNe, String.reduceEq, forall_const, ↓vmDA, vmVA, ↓vmQA, vmR, vmRA, ↓vmSA, vmSV, tyS, nuE, digits03_v, isDate03_v, rreference_v, valueOf_v, rvalue_v, split_v, rsplit_v, isDateC_v, day_v, rday_v]
theorem nextNil_v (a : Int) (A_ : AH) : valA Tryd.prog 25 #[.pointer none, .int .i64 a] A_ = some (.tuple #[.int .i64 0, .string ⟨#[]⟩, .int .i64 6]) := valA_eq (pureA_of (by kernel_rfl) (nextNil_h a))
theorem newS_h (d : Int) (h : 0 ≤ d ∧ d ≤ 9) : CallA Tryd.prog 23 #[.int .i64 d] [] (fun u_ A_ => ∃ sb, u_ = .tuple #[.pointer (some ⟨sb, 0, none⟩), .int .i64 0] ∧ Vm.look A_ sb = some (.cells #[.int .i64 d, .int .i64 0] 82)) := by
  refine callA_of_denA ⟨Tryd.prog, 23, Tryd.f23, 13, [0, 2, 3], [], [], _⟩ (args := [_]) Tryd.func23 rfl (by kernel_rfl) Tryd.ntmps23 (by simp) (by kernel_rfl) ?_
  intro ν fr; have nuE := fr.nu
  have h1 : (d < 0) = False := eq_false (by omega)
  have h2 : (9 < d) = False := eq_false (by omega)
  simp (maxDischargeDepth := 16) only [argE_nil, argE_cons, ↓vmD, vmV, vmStd, Nat.reduceMul, ↓reduceIte, Nat.reduceAdd, Nat.reduceSub, Nat.reduceEqDiff, Nat.reduceLT, Nat.reduceLeDiff, reduceCtorEq, Int.reduceToNat, Int.reduceLT, Int.reduceLE, Int.reduceEq, Int.reduceNeg, Int.reduceBEq, Int.reduceBNe, String.reduceEq, forall_const, ↓vmDA, vmVA, ↓vmQA, vmR, vmRA, ↓vmSA, vmSV, tyS, nuE, digits03_v, isDate03_v, rreference_v, valueOf_v, rvalue_v, split_v, rsplit_v, isDateC_v, day_v, rday_v, nextNil_v, h1, h2]
  exact ⟨ν 0, rfl, by simp [Vm.look]⟩

theorem rnewS_h (d : Int) (h : 0 ≤ d ∧ d ≤ 9) : CallA Tryd.prog 24 #[.int .i64 d] [] (fun u_ A_ => ∃ sb, u_ = .tuple #[.pointer (some ⟨sb, 0, none⟩), .int .i64 0] ∧ Vm.look A_ sb = some (.cells #[.int .i64 d, .int .i64 0] 84)) := by
  refine callA_of_denA ⟨Tryd.prog, 24, Tryd.f24, 13, [0, 2, 3], [], [], _⟩ (args := [_]) Tryd.func24 rfl (by kernel_rfl) Tryd.ntmps24 (by simp) (by kernel_rfl) ?_
  intro ν fr; have nuE := fr.nu
  have h1 : (d < 0) = False := eq_false (by omega)
  have h2 : (9 < d) = False := eq_false (by omega)
  simp (maxDischargeDepth := 16) only [argE_nil, argE_cons, ↓vmD, vmV, vmStd, Nat.reduceMul, ↓reduceIte, Nat.reduceAdd, Nat.reduceSub, Nat.reduceEqDiff, Nat.reduceLT, Nat.reduceLeDiff, reduceCtorEq, Int.reduceToNat, Int.reduceLT, Int.reduceLE, Int.reduceEq, Int.reduceNeg, Int.reduceBEq, Int.reduceBNe, String.reduceEq, forall_const, ↓vmDA, vmVA, ↓vmQA, vmR, vmRA, ↓vmSA, vmSV, tyS, nuE, digits03_v, isDate03_v, rreference_v, valueOf_v, rvalue_v, split_v, rsplit_v, isDateC_v, day_v, rday_v, nextNil_v, h1, h2]
  exact ⟨ν 0, rfl, by simp [Vm.look]⟩

theorem newSn_h (d : Int) (h : d < 0 ∨ 9 < d) : CallA Tryd.prog 23 #[.int .i64 d] [] (fun u_ _ => u_ = .tuple #[.pointer none, .int .i64 4]) := by
  refine callA_of_denA ⟨Tryd.prog, 23, Tryd.f23, 13, [0, 2, 3], [], [], _⟩ (args := [_]) Tryd.func23 rfl (by kernel_rfl) Tryd.ntmps23 (by simp) (by kernel_rfl) ?_
  intro ν fr; have nuE := fr.nu
  simp (maxDischargeDepth := 16) only [argE_nil, argE_cons, ↓vmD, vmV, vmStd, Nat.reduceMul, ↓reduceIte, Nat.reduceAdd, Nat.reduceSub, Nat.reduceEqDiff, Nat.reduceLT, Nat.reduceLeDiff, reduceCtorEq, Int.reduceToNat, Int.reduceLT, Int.reduceLE, Int.reduceEq, Int.reduceNeg, Int.reduceBEq, Int.reduceBNe, String.reduceEq, forall_const, ↓vmDA, vmVA, ↓vmQA, vmR, vmRA, ↓vmSA, vmSV, tyS, nuE, digits03_v, isDate03_v, rreference_v, valueOf_v, rvalue_v, split_v, rsplit_v, isDateC_v, day_v, rday_v, nextNil_v]
  all_goals ((repeat' split) <;> (try simp_all) <;> (try omega))
theorem newSn_v (d : Int) (h : d < 0 ∨ 9 < d) (A_ : AH) : valA Tryd.prog 23 #[.int .i64 d] A_ = some (.tuple #[.pointer none, .int .i64 4]) := valA_eq (pureA_of (by kernel_rfl) (newSn_h d h))
theorem rnewSn_h (d : Int) (h : d < 0 ∨ 9 < d) : CallA Tryd.prog 24 #[.int .i64 d] [] (fun u_ _ => u_ = .tuple #[.pointer none, .int .i64 4]) := by
  refine callA_of_denA ⟨Tryd.prog, 24, Tryd.f24, 13, [0, 2, 3], [], [], _⟩ (args := [_]) Tryd.func24 rfl (by kernel_rfl) Tryd.ntmps24 (by simp) (by kernel_rfl) ?_
  intro ν fr; have nuE := fr.nu
  simp (maxDischargeDepth := 16) only [argE_nil, argE_cons, ↓vmD, vmV, vmStd, Nat.reduceMul, ↓reduceIte, Nat.reduceAdd, Nat.reduceSub, Nat.reduceEqDiff, Nat.reduceLT, Nat.reduceLeDiff, reduceCtorEq, Int.reduceToNat, Int.reduceLT, Int.reduceLE, Int.reduceEq, Int.reduceNeg, Int.reduceBEq, Int.reduceBNe, String.reduceEq, forall_const, ↓vmDA, vmVA, ↓vmQA, vmR, vmRA, ↓vmSA, vmSV, tyS, nuE, digits03_v, isDate03_v, rreference_v, valueOf_v, rvalue_v, split_v, rsplit_v, isDateC_v, day_v, rday_v, nextNil_v, newSn_v]
  all_goals ((repeat' split) <;> (try simp_all) <;> (try omega))
theorem rnewSn_v (d : Int) (h : d < 0 ∨ 9 < d) (A_ : AH) : valA Tryd.prog 24 #[.int .i64 d] A_ = some (.tuple #[.pointer none, .int .i64 4]) := valA_eq (pureA_of (by kernel_rfl) (rnewSn_h d h))
theorem swapA {x y : Nat} {o u : Obj} {A : AH} (h : x ≠ y) : SubA ((x, o) :: (y, u) :: A) ((y, u) :: (x, o) :: A) := fun b w hl => by
  simp only [Vm.look] at hl ⊢
  by_cases e1 : x = b
  · rw [if_pos e1] at hl; rw [if_neg (fun e2 => h (e1.trans e2.symm)), if_pos e1]; exact hl
  · rw [if_neg e1] at hl ⊢; exact hl
theorem dom_cons {x : Nat} {o o' : Obj} {X D : AH} (h : SubA ((x, o') :: X) D) : ∀ b, Vm.look ((x, o) :: X) b ≠ none → Vm.look D b ≠ none := fun b hb => by
  have : Vm.look ((x, o') :: X) b ≠ none := by
    simp only [Vm.look] at hb ⊢
    split
    · simp
    · rename_i e; rw [if_neg e] at hb; exact hb
  exact dom_win h b this
def intC (n : Int) : List Value := [.int .i64 n]
theorem nextN_le {last : Nat} {a : Int} (h : last ≤ 999999) : nextN last a ≤ 999999 := by
  unfold nextN
  split <;> omega
def nx1 (b last : Nat) (a : Int) : Int := match dayO a with | none => 0 | some _ => ((last % 999999 + 1 : Nat) : Int)
def nx2 (b last : Nat) (a : Int) : ByteArray := match dayO a with | none => ⟨#[]⟩ | some d => bs (refL d b ((last % 999999 + 1 : Nat) : Int))
def nx3 (a : Int) : Int := match dayO a with | none => 14 | some _ => 0
theorem nextV_eq (b last : Nat) (a : Int) : nextV b last a = .tuple #[.int .i64 (nx1 b last a), .string (nx2 b last a), .int .i64 (nx3 a)] := by
  unfold nextV nx1 nx2 nx3
  cases dayO a <;> rfl
theorem numsLaw_h (A : AH) (hT : TabA A) (d : Int) (L : List Int) (p : Option Addr) (cap : Nat) (hL : StR intC 1 A p L) : CallA Tryd.prog 7 #[.int .i64 d, .slice p L.length cap] A (fun u_ A_ => u_ = .bool true ∧ SubA A A_) := by
  refine callA_of_denA ⟨Tryd.prog, 7, Tryd.f7, 96, [0, 1, 4, 5, 6, 7, 8, 9, 12, 13, 14, 15, 16, 17, 18, 19], [23, 24, 25, 26], [], _⟩ (args := [_, _]) Tryd.func7 rfl (by kernel_rfl) Tryd.ntmps7 (by simp) (by kernel_rfl) ?_
  intro ν fr; have nuE := fr.nu
  have aw := awake12_w A hT
  by_cases hl : 100 < L.length
  · have h1 : ((100 : Int) < (L.length : Int)) = True := eq_true (by omega)
    simp (maxDischargeDepth := 16) only [argE_nil, argE_cons, ↓vmD, vmV, vmStd, Nat.reduceMul, ↓reduceIte, Nat.reduceAdd, Nat.reduceSub, Nat.reduceEqDiff, Nat.reduceLT, Nat.reduceLeDiff, reduceCtorEq, Int.reduceToNat, Int.reduceLT, Int.reduceLE, Int.reduceEq, Int.reduceNeg, Int.reduceBEq, Int.reduceBNe, String.reduceEq, forall_const, ↓vmDA, vmVA, ↓vmQA, vmR, vmRA, ↓vmSA, vmSV, tyS, nuE, SubA.skip, SubA.refl, fr.2, digits03_v, isDate03_v, rreference_v, valueOf_v, rvalue_v, split_v, rsplit_v, isDateC_v, day_v, rday_v, nextNil_v, newSn_v, rnewSn_v, h1, aw]
  have h1 : ((100 : Int) < (L.length : Int)) = False := eq_false (by omega)
  by_cases hd : 0 ≤ d ∧ d ≤ 9
  · obtain ⟨b, rfl⟩ := Int.eq_ofNat_of_zero_le hd.1
    have hb9 : b ≤ 9 := by omega
    simp (maxDischargeDepth := 16) only [argE_nil, argE_cons, ↓vmD, vmV, vmStd, Nat.reduceMul, ↓reduceIte, Nat.reduceAdd, Nat.reduceSub, Nat.reduceEqDiff, Nat.reduceLT, Nat.reduceLeDiff, reduceCtorEq, Int.reduceToNat, Int.reduceLT, Int.reduceLE, Int.reduceEq, Int.reduceNeg, Int.reduceBEq, Int.reduceBNe, String.reduceEq, forall_const, ↓vmDA, vmVA, ↓vmQA, vmR, vmRA, ↓vmSA, vmSV, tyS, nuE, SubA.skip, SubA.refl, fr.2, digits03_v, isDate03_v, rreference_v, valueOf_v, rvalue_v, split_v, rsplit_v, isDateC_v, day_v, rday_v, nextNil_v, newSn_v, rnewSn_v, h1]
    refine CallA.use (newS_h (b : Int) hd) (SubA.nil _) (fun v D h b hb => absurd rfl hb) A (SubA.refl _) (Dis.nil _) ?_
    rintro u D ⟨sb, rfl, hs⟩ dD
    refine ⟨[(sb, _)], SubE.sub ⟨hs, trivial⟩, ?_⟩
    have ds : Vm.look A sb = none := dD.symm sb (by rw [hs]; simp)
    intro ν1 fr1
    have fr := fr1
    have nuE := fr.nu
    simp (maxDischargeDepth := 16) only [argE_nil, argE_cons, ↓vmD, vmV, vmStd, Nat.reduceMul, ↓reduceIte, Nat.reduceAdd, Nat.reduceSub, Nat.reduceEqDiff, Nat.reduceLT, Nat.reduceLeDiff, reduceCtorEq, Int.reduceToNat, Int.reduceLT, Int.reduceLE, Int.reduceEq, Int.reduceNeg, Int.reduceBEq, Int.reduceBNe, String.reduceEq, forall_const, ↓vmDA, vmVA, ↓vmQA, vmR, vmRA, ↓vmSA, vmSV, tyS, nuE, digits03_v, isDate03_v, rreference_v, valueOf_v, rvalue_v, split_v, rsplit_v, isDateC_v, day_v, rday_v, nextNil_v, newSn_v, rnewSn_v]
    refine CallA.use (rnewS_h (b : Int) hd) (SubA.nil _) (fun v D h b hb => absurd rfl hb) ((sb, .cells #[.int .i64 (b : Int), .int .i64 0] 82) :: A) (SubA.refl _) (Dis.nil _) ?_
    rintro u D2 ⟨rb, rfl, hr⟩ dD2
    refine ⟨[(rb, _)], SubE.sub ⟨hr, trivial⟩, ?_⟩
    have drs := dD2.symm rb (by rw [hr]; simp)
    have hrs : rb ≠ sb := by intro e; subst e; simp [Vm.look] at drs
    have dr : Vm.look A rb = none := by simp only [Vm.look] at drs; rw [if_neg (fun e => hrs e.symm)] at drs; exact drs
    intro ν2 fr2
    have fr := fr2
    have nuE := fr.nu
    simp (maxDischargeDepth := 16) only [argE_nil, argE_cons, ↓vmD, vmV, vmStd, Nat.reduceMul, ↓reduceIte, Nat.reduceAdd, Nat.reduceSub, Nat.reduceEqDiff, Nat.reduceLT, Nat.reduceLeDiff, reduceCtorEq, Int.reduceToNat, Int.reduceLT, Int.reduceLE, Int.reduceEq, Int.reduceNeg, Int.reduceBEq, Int.reduceBNe, String.reduceEq, forall_const, ↓vmDA, vmVA, ↓vmQA, vmR, vmRA, ↓vmSA, vmSV, tyS, nuE, digits03_v, isDate03_v, rreference_v, valueOf_v, rvalue_v, split_v, rsplit_v, isDateC_v, day_v, rday_v, nextNil_v, newSn_v, rnewSn_v]
    refine CallA.of_pure (valA_out (nextNil_v 0 _)) ?_
    intro ν3 fr3
    have fr := fr3
    have nuE := fr.nu
    simp (maxDischargeDepth := 16) only [argE_nil, argE_cons, ↓vmD, vmV, vmStd, Nat.reduceMul, ↓reduceIte, Nat.reduceAdd, Nat.reduceSub, Nat.reduceEqDiff, Nat.reduceLT, Nat.reduceLeDiff, reduceCtorEq, Int.reduceToNat, Int.reduceLT, Int.reduceLE, Int.reduceEq, Int.reduceNeg, Int.reduceBEq, Int.reduceBNe, String.reduceEq, forall_const, ↓vmDA, vmVA, ↓vmQA, vmR, vmRA, ↓vmSA, vmSV, tyS, nuE, digits03_v, isDate03_v, rreference_v, valueOf_v, rvalue_v, split_v, rsplit_v, isDateC_v, day_v, rday_v, nextNil_v, newSn_v, rnewSn_v]
    obtain ⟨e, l, n, he, hn, h3, hn9⟩ : ∃ (e : Nat) (l : List Int) (n : Nat), e = 0 ∧ n = 0 ∧ l = L.drop e ∧ n ≤ 999999 := ⟨0, L, 0, rfl, rfl, by simp, by omega⟩
    rw [show (13, some (Value.int .i64 0)) = (13, some (Value.int .i64 (e : Int))) by rw [he]; rfl]
    rw [show (rb, Obj.cells #[Value.int .i64 (b : Int), .int .i64 0] 84) = (rb, Obj.cells #[Value.int .i64 (b : Int), .int .i64 (n : Int)] 84) by rw [hn]; rfl]
    rw [show (sb, Obj.cells #[Value.int .i64 (b : Int), .int .i64 0] 82) = (sb, Obj.cells #[Value.int .i64 (b : Int), .int .i64 (n : Int)] 82) by rw [hn]; rfl]
    clear he hn nuE fr fr1 fr2 fr3 drs hr hs dD dD2
    induction l generalizing e n with
    | nil =>
      have hle := drop_nil h3
      have hlt : ((e : Int) < (L.length : Int)) = False := by simp; omega
      have sA : SubA A ((rb, .cells #[.int .i64 (b : Int), .int .i64 (n : Int)] 84) :: (sb, .cells #[.int .i64 (b : Int), .int .i64 (n : Int)] 82) :: A) := SubA.skip dr (SubA.skip ds (SubA.refl _))
      refine LoopA.intro (by kernel_rfl) ?_
      intro ν fr; have nuE := fr.nu
      have awE := aw _ sA
      simp (maxDischargeDepth := 16) only [argE_nil, argE_cons, ↓vmD, vmV, vmStd, Nat.reduceMul, ↓reduceIte, Nat.reduceAdd, Nat.reduceSub, Nat.reduceEqDiff, Nat.reduceLT, Nat.reduceLeDiff, reduceCtorEq, Int.reduceToNat, Int.reduceLT, Int.reduceLE, Int.reduceEq, Int.reduceNeg, Int.reduceBEq, Int.reduceBNe, String.reduceEq, forall_const, ↓vmDA, vmVA, ↓vmQA, vmR, vmRA, ↓vmSA, vmSV, tyS, nuE, digits03_v, isDate03_v, rreference_v, valueOf_v, rvalue_v, split_v, rsplit_v, isDateC_v, day_v, rday_v, nextNil_v, newSn_v, rnewSn_v, hlt, awE]
      exact sA
    | cons x l ih =>
      obtain ⟨ha, hl2, h3'⟩ := drop_some h3
      have hlt : ((e : Int) < (L.length : Int)) = True := by simp; omega
      have we : IntKind.i64.wrap ((e : Int) + 1) = ((e + 1 : Nat) : Int) := by rw [w_i64 (by omega) (by omega)]; omega
      obtain ⟨bk, off, cs, ty, fr0, hp0, hbk, hc, hcc⟩ := hL.at ha
      subst hp0
      have c0 : cs[off + e]? = some (.int .i64 x) := by simpa using hcc 0 _ rfl
      have kr := look_ne dr hbk
      have ks := look_ne ds hbk
      have hn9' := nextN_le (a := x) hn9
      refine LoopA.intro (by kernel_rfl) ?_
      intro ν fr; have nuE := fr.nu
      simp (maxDischargeDepth := 16) only [argE_nil, argE_cons, ↓vmD, vmV, vmStd, Nat.reduceMul, ↓reduceIte, Nat.reduceAdd, Nat.reduceSub, Nat.reduceEqDiff, Nat.reduceLT, Nat.reduceLeDiff, reduceCtorEq, Int.reduceToNat, Int.reduceLT, Int.reduceLE, Int.reduceEq, Int.reduceNeg, Int.reduceBEq, Int.reduceBNe, String.reduceEq, forall_const, ↓vmDA, vmVA, ↓vmQA, vmR, vmRA, ↓vmSA, vmSV, tyS, nuE, digits03_v, isDate03_v, rreference_v, valueOf_v, rvalue_v, split_v, rsplit_v, isDateC_v, day_v, rday_v, nextNil_v, newSn_v, rnewSn_v, hlt, kr, ks, hbk, c0, Nat.mul_one]
      have dsr : Vm.look ((rb, Obj.cells #[.int .i64 (b : Int), .int .i64 (n : Int)] 84) :: A) sb = none := by simp only [Vm.look]; rw [if_neg hrs]; exact ds
      refine CallA.use (nextS_h ((rb, .cells #[.int .i64 (b : Int), .int .i64 (n : Int)] 84) :: A) (hT.mono (SubA.skip dr (SubA.refl _))) sb b n x dsr hb9 hn9) (swapA (fun h => hrs h.symm)) (fun v D h => dom_cons h.2) [] (SubA.nil _) (fun x hx => absurd rfl hx) ?_
      rintro u D ⟨rfl, hs⟩ _
      refine ⟨_, hs, ?_⟩
      rw [List.append_nil]
      rw [nextV_eq]
      intro ν1 fr1
      have fr := fr1
      have nuE := fr.nu
      simp (maxDischargeDepth := 16) only [argE_nil, argE_cons, ↓vmD, vmV, vmStd, Nat.reduceMul, ↓reduceIte, Nat.reduceAdd, Nat.reduceSub, Nat.reduceEqDiff, Nat.reduceLT, Nat.reduceLeDiff, reduceCtorEq, Int.reduceToNat, Int.reduceLT, Int.reduceLE, Int.reduceEq, Int.reduceNeg, Int.reduceBEq, Int.reduceBNe, String.reduceEq, forall_const, ↓vmDA, vmVA, ↓vmQA, vmR, vmRA, ↓vmSA, vmSV, tyS, nuE, digits03_v, isDate03_v, rreference_v, valueOf_v, rvalue_v, split_v, rsplit_v, isDateC_v, day_v, rday_v, nextNil_v, newSn_v, rnewSn_v, hlt, kr, ks, hbk, c0, Nat.mul_one]
      have drs2 : Vm.look ((sb, Obj.cells #[.int .i64 (b : Int), .int .i64 (nextN n x : Int)] 82) :: A) rb = none := by simp only [Vm.look]; rw [if_neg (fun h => hrs h.symm)]; exact dr
      refine CallA.use (rnextS_h ((sb, .cells #[.int .i64 (b : Int), .int .i64 (nextN n x : Int)] 82) :: A) rb b n x drs2 hb9 hn9) (swapA hrs) (fun v D h => dom_cons h.2) [] (SubA.nil _) (fun x hx => absurd rfl hx) ?_
      rintro u D ⟨rfl, hr⟩ _
      refine ⟨_, hr, ?_⟩
      rw [List.append_nil]
      rw [nextV_eq]
      intro ν2 fr2
      have fr := fr2
      have nuE := fr.nu
      simp (maxDischargeDepth := 16) only [argE_nil, argE_cons, ↓vmD, vmV, vmStd, Nat.reduceMul, ↓reduceIte, Nat.reduceAdd, Nat.reduceSub, Nat.reduceEqDiff, Nat.reduceLT, Nat.reduceLeDiff, reduceCtorEq, Int.reduceToNat, Int.reduceLT, Int.reduceLE, Int.reduceEq, Int.reduceNeg, Int.reduceBEq, Int.reduceBNe, String.reduceEq, forall_const, ↓vmDA, vmVA, ↓vmQA, vmR, vmRA, ↓vmSA, vmSV, tyS, nuE, digits03_v, isDate03_v, rreference_v, valueOf_v, rvalue_v, split_v, rsplit_v, isDateC_v, day_v, rday_v, nextNil_v, newSn_v, rnewSn_v, we]
      exact LoopA.weak (ih (e + 1) (nextN n x) h3' hn9') (by simp only [subE, get_cons, Nat.reduceEqDiff, ↓reduceIte, reduceCtorEq, Nat.reduceAdd, and_self, and_true]) (SubA.refl _)
  · have hd2 : d < 0 ∨ 9 < d := by omega
    simp (maxDischargeDepth := 16) only [argE_nil, argE_cons, ↓vmD, vmV, vmStd, Nat.reduceMul, ↓reduceIte, Nat.reduceAdd, Nat.reduceSub, Nat.reduceEqDiff, Nat.reduceLT, Nat.reduceLeDiff, reduceCtorEq, Int.reduceToNat, Int.reduceLT, Int.reduceLE, Int.reduceEq, Int.reduceNeg, Int.reduceBEq, Int.reduceBNe, String.reduceEq, forall_const, ↓vmDA, vmVA, ↓vmQA, vmR, vmRA, ↓vmSA, vmSV, tyS, nuE, SubA.skip, SubA.refl, fr.2, digits03_v, isDate03_v, rreference_v, valueOf_v, rvalue_v, split_v, rsplit_v, isDateC_v, day_v, rday_v, nextNil_v, newSn_v, rnewSn_v, h1]
    refine CallA.of_pure (valA_out (newSn_v d hd2 _)) ?_
    intro ν1 fr1
    have fr := fr1
    have nuE := fr.nu
    simp (maxDischargeDepth := 16) only [argE_nil, argE_cons, ↓vmD, vmV, vmStd, Nat.reduceMul, ↓reduceIte, Nat.reduceAdd, Nat.reduceSub, Nat.reduceEqDiff, Nat.reduceLT, Nat.reduceLeDiff, reduceCtorEq, Int.reduceToNat, Int.reduceLT, Int.reduceLE, Int.reduceEq, Int.reduceNeg, Int.reduceBEq, Int.reduceBNe, String.reduceEq, forall_const, ↓vmDA, vmVA, ↓vmQA, vmR, vmRA, ↓vmSA, vmSV, tyS, nuE, digits03_v, isDate03_v, rreference_v, valueOf_v, rvalue_v, split_v, rsplit_v, isDateC_v, day_v, rday_v, nextNil_v, newSn_v, rnewSn_v]
    refine CallA.of_pure (valA_out (rnewSn_v d hd2 _)) ?_
    intro ν2 fr2
    have fr := fr2
    have nuE := fr.nu
    simp (maxDischargeDepth := 16) only [argE_nil, argE_cons, ↓vmD, vmV, vmStd, Nat.reduceMul, ↓reduceIte, Nat.reduceAdd, Nat.reduceSub, Nat.reduceEqDiff, Nat.reduceLT, Nat.reduceLeDiff, reduceCtorEq, Int.reduceToNat, Int.reduceLT, Int.reduceLE, Int.reduceEq, Int.reduceNeg, Int.reduceBEq, Int.reduceBNe, String.reduceEq, forall_const, ↓vmDA, vmVA, ↓vmQA, vmR, vmRA, ↓vmSA, vmSV, tyS, nuE, digits03_v, isDate03_v, rreference_v, valueOf_v, rvalue_v, split_v, rsplit_v, isDateC_v, day_v, rday_v, nextNil_v, newSn_v, rnewSn_v]
    refine CallA.of_pure (valA_out (nextNil_v 0 _)) ?_
    intro ν3 fr3
    have fr := fr3
    have nuE := fr.nu
    simp (maxDischargeDepth := 16) only [argE_nil, argE_cons, ↓vmD, vmV, vmStd, Nat.reduceMul, ↓reduceIte, Nat.reduceAdd, Nat.reduceSub, Nat.reduceEqDiff, Nat.reduceLT, Nat.reduceLeDiff, reduceCtorEq, Int.reduceToNat, Int.reduceLT, Int.reduceLE, Int.reduceEq, Int.reduceNeg, Int.reduceBEq, Int.reduceBNe, String.reduceEq, forall_const, ↓vmDA, vmVA, ↓vmQA, vmR, vmRA, ↓vmSA, vmSV, tyS, nuE, digits03_v, isDate03_v, rreference_v, valueOf_v, rvalue_v, split_v, rsplit_v, isDateC_v, day_v, rday_v, nextNil_v, newSn_v, rnewSn_v]
    refine LoopA.intro (by kernel_rfl) ?_
    intro ν fr; have nuE := fr.nu
    have lt2 : ((0 : Int) < (L.length : Int)) = (0 < L.length) := by simp
    simp (maxDischargeDepth := 16) only [argE_nil, argE_cons, ↓vmD, vmV, vmStd, Nat.reduceMul, ↓reduceIte, Nat.reduceAdd, Nat.reduceSub, Nat.reduceEqDiff, Nat.reduceLT, Nat.reduceLeDiff, reduceCtorEq, Int.reduceToNat, Int.reduceLT, Int.reduceLE, Int.reduceEq, Int.reduceNeg, Int.reduceBEq, Int.reduceBNe, String.reduceEq, forall_const, ↓vmDA, vmVA, ↓vmQA, vmR, vmRA, ↓vmSA, vmSV, tyS, nuE, SubA.skip, SubA.refl, fr.2, digits03_v, isDate03_v, rreference_v, valueOf_v, rvalue_v, split_v, rsplit_v, isDateC_v, day_v, rday_v, nextNil_v, newSn_v, rnewSn_v, lt2, aw]
    all_goals ((repeat' split) <;> (try simp_all) <;> (try omega))
theorem numsLaw_w (A : AH) (hT : TabA A) (d : Int) (L : List Int) (p : Option Addr) (cap : Nat) (hL : StR intC 1 A p L) (B_ : AH) (hB_ : SubA A B_) : valA Tryd.prog 7 #[.int .i64 d, .slice p L.length cap] B_ = some (.bool true) := valA_eq (pureA_at (by kernel_rfl) (numsLaw_h A hT d L p cap hL) hB_)
theorem numsLaw_v (A : AH) (hT : TabA A) (d : Int) (L : List Int) (p : Option Addr) (cap : Nat) (hL : StR intC 1 A p L) : valA Tryd.prog 7 #[.int .i64 d, .slice p L.length cap] A = some (.bool true) := valA_eq (pureA_at (by kernel_rfl) (numsLaw_h A hT d L p cap hL) (SubA.refl _))
theorem decI {h : Heap} (es : List Value) (hl : es.length = 1) (hf : Fits h (.int .i64) es) : ∃ x, intC x = es := by
  unfold Fits at hf
  obtain ⟨n, rfl, _⟩ := hf
  exact ⟨n, rfl⟩
theorem nums_walk (w : World) (ht : Lib.TabIs Tryd.prog w "internal/strconv.uint64pow10" .u64 Lib.pow10Tab) (d : Int) (wd : (Lit.int .i64 d).wf = true) (a1 : Option Addr) (len1 cap1 : Nat) (w1 : Vm.Fits w.heap (.sl 1 (.int .i64)) [.slice a1 len1 cap1]) :
    CallsH Tryd.prog 7 #[.int .i64 d, .slice a1 len1 cap1] w.heap fun e h' => e = .returned (.bool true) ∧ Grew w.heap h' := by
  obtain ⟨B, hB, hT⟩ := TabA.of ht
  obtain ⟨p, cap, L, e1, _, _, _, A, hA, hL⟩ := list_fits intC (v := .slice a1 len1 cap1) (by decide) decI w1 (by intro c hc; cases hc)
  cases e1
  exact callsH_of_pure (numsLaw_v (A ++ B) (hT.mono (sat_sub hA hB)) d L _ _ (hL.mono (SubA.left _ _))) (by kernel_rfl) (hA.both hB)
end Go.Proofs.YthmkhmgmoflmkaaDoor
