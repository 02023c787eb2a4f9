/-
Trace: the examples of the chapter.
Conditions: none.
-/
import Derived.Test.YthmkhmgmoflmkaaDoorKey
namespace Go.Proofs.YthmkhmgmoflmkaaDoor
open Go.Vm
set_option linter.unusedSimpArgs false
set_option linter.unusedVariables false
set_option maxHeartbeats 2000000
set_option maxRecDepth 20000
theorem newW_h (H : Int) (hH : 1 ≤ H ∧ H ≤ 1099511627776) : CallA Tryd.prog 11 #[.int .i64 H] [] (fun u_ A_ => ∃ wb, u_ = .tuple #[.pointer (some ⟨wb, 0, none⟩), .int .i64 0] ∧ ∃ E, WinE E wb H [] ∧ SubA E A_) := by
  refine callA_of_denA ⟨Tryd.prog, 11, Tryd.f11, 14, [0, 2, 3], [], [], _⟩ (args := [_]) Tryd.func11 rfl (by kernel_rfl) Tryd.ntmps11 (by simp) (by kernel_rfl) ?_
  intro ν fr; have nuE := fr.nu
  have h1 : (H < 1) = False := eq_false (by omega)
  have h2 : ((1099511627776 : Int) < H) = False := eq_false (by omega)
  simp (maxDischargeDepth := 16) only [argE_nil, argE_cons, ↓vmD, vmV, vmStd, Nat.reduceMul, ↓reduceIte, Nat.reduceAdd, Nat.reduceSub, Nat.reduceEqDiff, Nat.reduceLT, Nat.reduceLeDiff, reduceCtorEq, Int.reduceToNat, Int.reduceLT, Int.reduceLE, Int.reduceEq, Int.reduceNeg, Int.reduceBEq, Int.reduceBNe, String.reduceEq, forall_const, ↓vmDA, vmVA, ↓vmQA, vmR, vmRA, ↓vmSA, vmSV, tyS, nuE, digits03_v, isDate03_v, rreference_v, valueOf_v, rvalue_v, split_v, rsplit_v, h1, h2]
  refine ⟨ν 1, rfl, _, ⟨ν 0, .slice none 0 0, #[], 0, [], rfl, MapIs.nil, OwnL.nil _ _ _, by simp [nuE], rfl, rfl, by simp [keysL], by simp⟩, SubA.refl _⟩

theorem lenW_h (E : AH) (wb : Nat) (H : Int) (L : List En) (hE : WinE E wb H L) : CallA Tryd.prog 17 #[.pointer (some ⟨wb, 0, none⟩)] E (fun u_ A_ => u_ = .int .i64 (L.length : Int) ∧ SubA E A_) := by
  refine callA_of_denA ⟨Tryd.prog, 17, Tryd.f17, 10, [0, 2], [], [], _⟩ (args := [_]) Tryd.func17 rfl (by kernel_rfl) Tryd.ntmps17 (by simp) (by kernel_rfl) ?_
  intro ν fr; have nuE := fr.nu
  obtain ⟨mr, v, es, cl, Bk, rfl, hm, ho, h1, h2, h3, h4, h5⟩ := hE
  obtain ⟨p, cap, rfl, _⟩ := ho.slice
  have g0 : ((wb = mr) = False) ∧ ((mr = wb) = False) := ⟨eq_false h1, eq_false fun e => h1 e.symm⟩
  simp (maxDischargeDepth := 16) only [argE_nil, argE_cons, ↓vmD, vmV, vmStd, Nat.reduceMul, ↓reduceIte, Nat.reduceAdd, Nat.reduceSub, Nat.reduceEqDiff, Nat.reduceLT, Nat.reduceLeDiff, reduceCtorEq, Int.reduceToNat, Int.reduceLT, Int.reduceLE, Int.reduceEq, Int.reduceNeg, Int.reduceBEq, Int.reduceBNe, String.reduceEq, forall_const, ↓vmDA, vmVA, ↓vmQA, vmR, vmRA, ↓vmSA, vmSV, tyS, nuE, SubA.skip, SubA.refl, fr.2, digits03_v, isDate03_v, rreference_v, valueOf_v, rvalue_v, split_v, rsplit_v, g0, keysL_len]
theorem lenW_w (E : AH) (wb : Nat) (H : Int) (L : List En) (hE : WinE E wb H L) (B_ : AH) (hB_ : SubA E B_) : valA Tryd.prog 17 #[.pointer (some ⟨wb, 0, none⟩)] B_ = some (.int .i64 (L.length : Int)) := valA_eq (pureA_at (by kernel_rfl) (lenW_h E wb H L hE) hB_)
theorem lenW_v (E : AH) (wb : Nat) (H : Int) (L : List En) (hE : WinE E wb H L) : valA Tryd.prog 17 #[.pointer (some ⟨wb, 0, none⟩)] E = some (.int .i64 (L.length : Int)) := valA_eq (pureA_at (by kernel_rfl) (lenW_h E wb H L hE) (SubA.refl _))
theorem WinE.use {E X A : AH} {P : Program} {g : FuncId} {args : Array Value} {K : Value → AH → Prop} {u0 : Value} {wb : Nat} {H : Int} {L' : List En}
    (hc : CallA P g args E fun u A' => u = u0 ∧ ∃ E', WinE E' wb H L' ∧ SubA E' A' ∧ ∀ b, Vm.look E b ≠ none → Vm.look A' b ≠ none) (hs : SubA E A) (hX : SubA X A) (hd : Dis E X)
    (hk : ∀ E', WinE E' wb H L' → Dis E' X → K u0 (E' ++ X)) : CallA P g args A K :=
  CallA.use hc hs (fun v D h b hb => h.2.choose_spec.2.2 b hb) X hX hd (by
    rintro v D ⟨rfl, E', h1, h2, h3⟩ dD
    exact ⟨E', h2, hk E' h1 (dD.subl h2)⟩)
theorem sc_el (a b : Value) : sliceCells Tryd.prog 22 1 [(0, .agg #[a, b])] = some (27, #[a, b]) := by kernel_rfl
theorem awake12_h (A : AH) (hT : TabA A) : CallA Tryd.prog 8 #[] A (fun u_ A_ => u_ = .bool true ∧ SubA A A_) := by
  refine callA_of_denA ⟨Tryd.prog, 8, Tryd.f8, 90, [0, 1, 2, 3, 4, 6, 7, 8, 10, 11, 12, 13], [11, 12], [], _⟩ (args := []) Tryd.func8 rfl (by kernel_rfl) Tryd.ntmps8 (by simp) (by kernel_rfl) ?_
  intro ν fr; have nuE := fr.nu
  have r1 := show valA Tryd.prog 19 #[.int .i64 20, .int .i64 3, .int .i64 7] A = some (.tuple #[.string ⟨#[48, 48, 48, 50, 48, 51, 48, 48, 48, 48, 48, 55]⟩, .int .i64 0]) from (reference_v A hT 20 3 7).trans (congrArg some (by kernel_rfl))
  simp (maxDischargeDepth := 16) only [argE_nil, argE_cons, ↓vmD, vmV, vmStd, Nat.reduceMul, ↓reduceIte, Nat.reduceAdd, Nat.reduceSub, Nat.reduceEqDiff, Nat.reduceLT, Nat.reduceLeDiff, reduceCtorEq, Int.reduceToNat, Int.reduceLT, Int.reduceLE, Int.reduceEq, Int.reduceNeg, Int.reduceBEq, Int.reduceBNe, String.reduceEq, forall_const, ↓vmDA, vmVA, ↓vmQA, vmR, vmRA, ↓vmSA, vmSV, tyS, nuE, SubA.skip, SubA.refl, fr.2, digits03_v, isDate03_v, rreference_v, valueOf_v, rvalue_v, split_v, rsplit_v, r1]
  refine CallA.use (newW_h 10 (by omega)) (SubA.nil _) (fun v D h b hb => absurd rfl hb) A (SubA.refl _) (Dis.nil _) ?_
  rintro u D ⟨wb, rfl, E1, hE1, hs1⟩ dD
  refine ⟨E1, hs1, ?_⟩
  have d1 := dD.subl hs1
  intro ν1 fr1
  have fr := fr1
  have nuE := fr.nu
  simp (maxDischargeDepth := 16) only [argE_nil, argE_cons, ↓vmD, vmV, vmStd, Nat.reduceMul, ↓reduceIte, Nat.reduceAdd, Nat.reduceSub, Nat.reduceEqDiff, Nat.reduceLT, Nat.reduceLeDiff, reduceCtorEq, Int.reduceToNat, Int.reduceLT, Int.reduceLE, Int.reduceEq, Int.reduceNeg, Int.reduceBEq, Int.reduceBNe, String.reduceEq, forall_const, ↓vmDA, vmVA, ↓vmQA, vmR, vmRA, ↓vmSA, vmSV, tyS, nuE, digits03_v, isDate03_v, rreference_v, valueOf_v, rvalue_v, split_v, rsplit_v]
  refine WinE.use (seenW_h E1 wb 10 [] hE1 100 ⟨#[97]⟩ ⟨#[120]⟩) (SubA.left _ _) d1.right d1 ?_
  intro E2 hE2 d2
  rw [show seenL 10 ⟨#[97]⟩ ⟨#[120]⟩ 100 [] = [⟨⟨#[97]⟩, ⟨#[120]⟩, 100⟩] by kernel_rfl] at hE2
  rw [show seenV 10 ⟨#[97]⟩ 100 [] = .tuple #[.string ⟨#[]⟩, .bool false] by kernel_rfl]
  intro ν2 fr2
  have fr := fr2
  have nuE := fr.nu
  simp (maxDischargeDepth := 16) only [argE_nil, argE_cons, ↓vmD, vmV, vmStd, Nat.reduceMul, ↓reduceIte, Nat.reduceAdd, Nat.reduceSub, Nat.reduceEqDiff, Nat.reduceLT, Nat.reduceLeDiff, reduceCtorEq, Int.reduceToNat, Int.reduceLT, Int.reduceLE, Int.reduceEq, Int.reduceNeg, Int.reduceBEq, Int.reduceBNe, String.reduceEq, forall_const, ↓vmDA, vmVA, ↓vmQA, vmR, vmRA, ↓vmSA, vmSV, tyS, nuE, digits03_v, isDate03_v, rreference_v, valueOf_v, rvalue_v, split_v, rsplit_v]
  refine WinE.use (seenW_h E2 wb 10 _ hE2 109 ⟨#[97]⟩ ⟨#[121]⟩) (SubA.left _ _) d2.right d2 ?_
  intro E3 hE3 d3
  rw [show seenL 10 ⟨#[97]⟩ ⟨#[121]⟩ 109 [⟨⟨#[97]⟩, ⟨#[120]⟩, 100⟩] = [⟨⟨#[97]⟩, ⟨#[120]⟩, 100⟩] by kernel_rfl] at hE3
  rw [show seenV 10 ⟨#[97]⟩ 109 [⟨⟨#[97]⟩, ⟨#[120]⟩, 100⟩] = .tuple #[.string ⟨#[120]⟩, .bool true] by kernel_rfl]
  intro ν3 fr3
  have fr := fr3
  have nuE := fr.nu
  simp (maxDischargeDepth := 16) only [argE_nil, argE_cons, ↓vmD, vmV, vmStd, Nat.reduceMul, ↓reduceIte, Nat.reduceAdd, Nat.reduceSub, Nat.reduceEqDiff, Nat.reduceLT, Nat.reduceLeDiff, reduceCtorEq, Int.reduceToNat, Int.reduceLT, Int.reduceLE, Int.reduceEq, Int.reduceNeg, Int.reduceBEq, Int.reduceBNe, String.reduceEq, forall_const, ↓vmDA, vmVA, ↓vmQA, vmR, vmRA, ↓vmSA, vmSV, tyS, nuE, digits03_v, isDate03_v, rreference_v, valueOf_v, rvalue_v, split_v, rsplit_v]
  refine WinE.use (seenW_h E3 wb 10 _ hE3 110 ⟨#[97]⟩ ⟨#[121]⟩) (SubA.left _ _) d3.right d3 ?_
  intro E4 hE4 d4
  rw [show seenL 10 ⟨#[97]⟩ ⟨#[121]⟩ 110 [⟨⟨#[97]⟩, ⟨#[120]⟩, 100⟩] = [⟨⟨#[97]⟩, ⟨#[121]⟩, 110⟩] by kernel_rfl] at hE4
  rw [show seenV 10 ⟨#[97]⟩ 110 [⟨⟨#[97]⟩, ⟨#[120]⟩, 100⟩] = .tuple #[.string ⟨#[]⟩, .bool false] by kernel_rfl]
  intro ν4 fr4
  have fr := fr4
  have nuE := fr.nu
  simp (maxDischargeDepth := 16) only [argE_nil, argE_cons, ↓vmD, vmV, vmStd, Nat.reduceMul, ↓reduceIte, Nat.reduceAdd, Nat.reduceSub, Nat.reduceEqDiff, Nat.reduceLT, Nat.reduceLeDiff, reduceCtorEq, Int.reduceToNat, Int.reduceLT, Int.reduceLE, Int.reduceEq, Int.reduceNeg, Int.reduceBEq, Int.reduceBNe, String.reduceEq, forall_const, ↓vmDA, vmVA, ↓vmQA, vmR, vmRA, ↓vmSA, vmSV, tyS, nuE, digits03_v, isDate03_v, rreference_v, valueOf_v, rvalue_v, split_v, rsplit_v]
  refine WinE.use (seenW_h E4 wb 10 _ hE4 111 ⟨#[97]⟩ ⟨#[122]⟩) (SubA.left _ _) d4.right d4 ?_
  intro E5 hE5 d5
  rw [show seenL 10 ⟨#[97]⟩ ⟨#[122]⟩ 111 [⟨⟨#[97]⟩, ⟨#[121]⟩, 110⟩] = [⟨⟨#[97]⟩, ⟨#[121]⟩, 110⟩] by kernel_rfl] at hE5
  rw [show seenV 10 ⟨#[97]⟩ 111 [⟨⟨#[97]⟩, ⟨#[121]⟩, 110⟩] = .tuple #[.string ⟨#[121]⟩, .bool true] by kernel_rfl]
  intro ν5 fr5
  have fr := fr5
  have nuE := fr.nu
  have ln := lenW_w E5 wb 10 _ hE5
  have tA := hT.mono d5.right
  obtain ⟨A6, hA6⟩ : ∃ A6 : AH, A6 = (ν5 1, .cells #[.int .i64 110, .slice (some ⟨ν5 0, 0, none⟩) 1 1] 24) :: (ν5 0, .cells #[.int .i64 37, .string ⟨#[48, 48, 48, 50, 48, 51, 48, 48, 48, 48, 48, 55]⟩] 27) :: (E5 ++ A) := ⟨_, rfl⟩
  have s6 : SubA (E5 ++ A) A6 := by rw [hA6]; exact SubA.skip (fr.2 1) (SubA.skip (fr.2 0) (SubA.refl _))
  have ln6 := ln A6 (SubA.trans (SubA.left _ _) s6)
  have l6 : Vm.look A6 (ν5 0) = some (.cells #[.int .i64 37, .string ⟨#[48, 48, 48, 50, 48, 51, 48, 48, 48, 48, 48, 55]⟩] 27) := by rw [hA6]; simp [Vm.look, nuE]
  have st6 : StR elC 2 A6 (some ⟨ν5 0, 0, none⟩) [⟨37, ⟨#[48, 48, 48, 50, 48, 51, 48, 48, 48, 48, 48, 55]⟩⟩] := .inr ⟨ν5 0, 0, _, _, _, rfl, l6, fun i a hi => by
    cases i with
    | zero => cases hi; rfl
    | succ i => simp at hi⟩
  have k6 := show valA Tryd.prog 9 #[.agg #[.int .i64 110, .slice (some ⟨ν5 0, 0, none⟩) 1 1]] A6 = some (.string ⟨#[48, 49, 48, 47, 48, 48, 48, 50, 48, 51, 48, 48, 48, 48, 48, 55, 47]⟩) from (keyM_v A6 (tA.mono s6) 110 _ _ 1 st6 (by simp) (by intro x hx; simp at hx; subst hx; decide)).trans (congrArg some (by kernel_rfl))
  rw [hA6] at ln6 k6
  simp (maxDischargeDepth := 16) only [argE_nil, argE_cons, ↓vmD, vmV, vmStd, Nat.reduceMul, ↓reduceIte, Nat.reduceAdd, Nat.reduceSub, Nat.reduceEqDiff, Nat.reduceLT, Nat.reduceLeDiff, reduceCtorEq, Int.reduceToNat, Int.reduceLT, Int.reduceLE, Int.reduceEq, Int.reduceNeg, Int.reduceBEq, Int.reduceBNe, String.reduceEq, forall_const, ↓vmDA, vmVA, ↓vmQA, vmR, vmRA, ↓vmSA, vmSV, tyS, nuE, digits03_v, isDate03_v, rreference_v, valueOf_v, rvalue_v, split_v, rsplit_v, sc_el, ln6, k6, nuE]
  exact SubA.trans d5.right (by rw [← hA6]; exact s6)
theorem awake12_w (A : AH) (hT : TabA A) (B_ : AH) (hB_ : SubA A B_) : valA Tryd.prog 8 #[] B_ = some (.bool true) := valA_eq (pureA_at (by kernel_rfl) (awake12_h A hT) hB_)
theorem awake12_v (A : AH) (hT : TabA A) : valA Tryd.prog 8 #[] A = some (.bool true) := valA_eq (pureA_at (by kernel_rfl) (awake12_h A hT) (SubA.refl _))
end Go.Proofs.YthmkhmgmoflmkaaDoor
