/-
Adjustments: the examples of the chapter.
Conditions: none.
-/
import Derived.Test.YtejcnpllodgmlaaDoorAdjF
namespace Go.Proofs.YtejcnpllodgmlaaDoor
open Go.Vm
set_option linter.unusedSimpArgs false
set_option linter.unusedVariables false
set_option maxHeartbeats 4000000
set_option maxRecDepth 20000
def c0 : Cs := ⟨⟨#[100]⟩, ⟨#[112]⟩, ⟨#[]⟩, ⟨#[]⟩, ⟨#[]⟩, 600, ⟨#[69, 85, 82]⟩, 5, 0, 0⟩
def r0 : Rc := ⟨1, ⟨#[112]⟩, ⟨#[]⟩, ⟨#[115, 104, 111, 112, 98, 97, 110, 107]⟩, ⟨#[104, 111, 109, 101, 98, 97, 110, 107]⟩, ⟨#[109, 49]⟩, ⟨#[52, 48, 48, 48, 48, 48, 48, 48, 48, 48, 48, 48, 48, 48, 48, 50]⟩, 1000, ⟨#[69, 85, 82]⟩, 10, 5411, true⟩
def x1 (k n : Int) (b : UInt8) : Rc := ⟨k, ⟨#[100, 45, b]⟩, ⟨#[]⟩, ⟨#[115, 104, 111, 112, 98, 97, 110, 107]⟩, ⟨#[104, 111, 109, 101, 98, 97, 110, 107]⟩, ⟨#[109, 49]⟩, ⟨#[52, 48, 48, 48, 48, 48, 48, 48, 48, 48, 48, 48, 48, 48, 48, 50]⟩, 600, ⟨#[69, 85, 82]⟩, n, 5411, true⟩
theorem t2 : movL c0 r0 20 [1, 2, 3, 5] 0 [] = ([x1 3 20 49, x1 4 20 50, x1 3 20 51], 0) := by kernel_rfl
theorem t3 : movV c0 r0 1 4 20 1 = .tuple #[.agg #[.int .i64 0, .string ⟨#[]⟩, .string ⟨#[]⟩, .string ⟨#[]⟩, .string ⟨#[]⟩, .string ⟨#[]⟩, .string ⟨#[]⟩, .int .i64 0, .string ⟨#[]⟩, .int .i64 0, .int .i64 0, .bool false], .bool false, .int .i64 8] := by kernel_rfl
theorem c0_sz : SzC c0 := ⟨by decide, by decide⟩
theorem r0_sz : SzR r0 := ⟨by decide, by decide, by decide, by decide, by decide, by decide, by decide⟩
theorem exmpl_h : CallA Tryd.prog 19 #[] [] (fun u_ _ => u_ = .tuple #[.agg #[.int .i64 1, .string ⟨#[112]⟩, .string ⟨#[]⟩, .string ⟨#[115, 104, 111, 112, 98, 97, 110, 107]⟩, .string ⟨#[104, 111, 109, 101, 98, 97, 110, 107]⟩, .string ⟨#[109, 49]⟩, .string ⟨#[52, 48, 48, 48, 48, 48, 48, 48, 48, 48, 48, 48, 48, 48, 48, 50]⟩, .int .i64 1000, .string ⟨#[69, 85, 82]⟩, .int .i64 10, .int .i64 5411, .bool true], .agg #[.string ⟨#[100]⟩, .string ⟨#[112]⟩, .string ⟨#[]⟩, .string ⟨#[]⟩, .string ⟨#[]⟩, .int .i64 600, .string ⟨#[69, 85, 82]⟩, .int .i64 5, .int .i64 0, .int .i64 0]]) := by
  refine callA_of_denA ⟨Tryd.prog, 19, Tryd.f19, 8, [0, 1, 2], [], [], _⟩ (args := []) Tryd.func19 rfl (by kernel_rfl) Tryd.ntmps19 (by simp) (by kernel_rfl) ?_
  intro ν fr; have nuE := fr.nu
  simp (maxDischargeDepth := 16) only [argE_nil, argE_cons, ↓vmD, vmV, vmStd, Nat.reduceMul, ↓reduceIte, Nat.reduceAdd, Nat.reduceSub, Nat.reduceEqDiff, Nat.reduceLT, Nat.reduceLeDiff, reduceCtorEq, Int.reduceToNat, Int.reduceLT, Int.reduceLE, Int.reduceEq, Int.reduceNeg, Int.reduceBEq, Int.reduceBNe, String.reduceEq, forall_const, ↓vmDA, vmVA, ↓vmQA, vmR, vmRA, ↓vmSA, vmSV, tyS, nuE, slIndexByte_v, indexByte_v, indexRune_v, containsRune_v, classOf_v, isWordByte_v, letter_v, digit_v, wordAt_v, rword_v, isName_v, risName_v, recId_v, rId13_v, moneyCur_v, rCur01_v, inTotal_v, rwithin1_v, exCard_v, recCheck_v, rrecCheck_v, dNext_v, rNext_v, holder_v, rholder_v, foll_v, rfoll_v, rDec_v, rMove_v]
theorem exmpl_v (A_ : AH) : valA Tryd.prog 19 #[] A_ = some (.tuple #[.agg #[.int .i64 1, .string ⟨#[112]⟩, .string ⟨#[]⟩, .string ⟨#[115, 104, 111, 112, 98, 97, 110, 107]⟩, .string ⟨#[104, 111, 109, 101, 98, 97, 110, 107]⟩, .string ⟨#[109, 49]⟩, .string ⟨#[52, 48, 48, 48, 48, 48, 48, 48, 48, 48, 48, 48, 48, 48, 48, 50]⟩, .int .i64 1000, .string ⟨#[69, 85, 82]⟩, .int .i64 10, .int .i64 5411, .bool true], .agg #[.string ⟨#[100]⟩, .string ⟨#[112]⟩, .string ⟨#[]⟩, .string ⟨#[]⟩, .string ⟨#[]⟩, .int .i64 600, .string ⟨#[69, 85, 82]⟩, .int .i64 5, .int .i64 0, .int .i64 0]]) := valA_eq (pureA_of (by kernel_rfl) (exmpl_h ))
theorem sc_st (a b c d : Int) : sliceCells Tryd.prog 28 4 [(0, .int .i64 a), (1, .int .i64 b), (2, .int .i64 c), (3, .int .i64 d)] = some (3, #[.int .i64 a, .int .i64 b, .int .i64 c, .int .i64 d]) := by kernel_rfl
theorem stR_of {α : Type} {f : α → List Value} {n : Nat} (hf : ∀ x, (f x).length = n) {A : AH} {g : Nat} {L : List α} {e : TypeId} {fr : Nat × Nat} (h : Vm.look A g = some (.cells (L.flatMap f).toArray e fr)) : StR f n A (some ⟨g, 0, none⟩) L :=
  StR.of_row hf (by
    have hl := flat_len f n hf L
    rw [h, rdCS_cells, if_pos (by rw [List.size_toArray, hl]; omega)]
    congr 1
    apply Array.ext'
    simp only [Array.toList_extract, List.extract_eq_take_drop, List.drop_zero, Nat.zero_add, Nat.sub_zero]
    rw [← hl, List.take_length])
theorem awake47_h (A : AH) (hT : TabA A) : CallA Tryd.prog 7 #[] A (fun u_ A_ => u_ = .bool true ∧ SubA A A_) := by
  refine callA_of_denA ⟨Tryd.prog, 7, Tryd.f7, 75, [0, 1, 2, 3, 4, 7], [8], [], _⟩ (args := []) Tryd.func7 rfl (by kernel_rfl) Tryd.ntmps7 (by simp) (by kernel_rfl) ?_
  intro ν fr; have nuE := fr.nu
  simp (maxDischargeDepth := 16) only [argE_nil, argE_cons, ↓vmD, vmV, vmStd, Nat.reduceMul, ↓reduceIte, Nat.reduceAdd, Nat.reduceSub, Nat.reduceEqDiff, Nat.reduceLT, Nat.reduceLeDiff, reduceCtorEq, Int.reduceToNat, Int.reduceLT, Int.reduceLE, Int.reduceEq, Int.reduceNeg, Int.reduceBEq, Int.reduceBNe, String.reduceEq, forall_const, ↓vmDA, vmVA, ↓vmQA, vmR, vmRA, ↓vmSA, vmSV, tyS, nuE, SubA.skip, SubA.refl, fr.2, slIndexByte_v, indexByte_v, indexRune_v, containsRune_v, classOf_v, isWordByte_v, letter_v, digit_v, wordAt_v, rword_v, isName_v, risName_v, recId_v, rId13_v, moneyCur_v, rCur01_v, inTotal_v, rwithin1_v, exCard_v, recCheck_v, rrecCheck_v, dNext_v, rNext_v, holder_v, rholder_v, foll_v, rfoll_v, rDec_v, rMove_v, exmpl_v, sc_st]
  have sk : SubA A ((ν 2, Obj.cells #[.int .i64 1, .int .i64 2, .int .i64 3, .int .i64 5] 3) :: A) := SubA.skip (fr.2 2) (SubA.refl _)
  refine CallA.go (panMoves_h ((ν 2, Obj.cells #[.int .i64 1, .int .i64 2, .int .i64 3, .int .i64 5] 3) :: A) (hT.mono sk) c0 r0 c0_sz r0_sz [1, 2, 3, 5] (some ⟨ν 2, 0, none⟩) 4 (stR_of (e := 3) (fr := (0, 0)) int_len (by simp [Vm.look, intC])) (by decide) 20) ?_ ?_ ?_
  · exact SubA.app (B := [_]) (SubA.skip (fr.2 1) (SubA.skip (fr.2 0) (SubA.refl _)))
  · rintro v D ⟨v', B, _, _, dB, hD⟩
    exact SubA.trans dB.right hD
  rintro u D A1 ⟨v', B, rfl, hown, dB, hD⟩ hDA sS _
  rw [t2] at hown ⊢
  obtain ⟨q, vcap, rfl, _, hS⟩ := hown.read Rc.len
  have hS1 := hS.mono (SubA.trans (SubA.trans (SubA.left B _) hD) hDA)
  have sA1 : SubA A A1 := SubA.trans (SubA.skip (fr.2 2) (SubA.skip (fr.2 1) (SubA.skip (fr.2 0) (SubA.refl _)))) sS
  have l0 := sS (ν 0) _ (by simp only [Vm.look, nuE]; simp; rfl)
  have l1 := sS (ν 1) _ (by simp only [Vm.look, nuE]; simp; rfl)
  rcases id hS1 with hx | ⟨bk, off, cs, ty, fr0, rfl, lb, hall⟩
  · cases hx
  have g0 := (rdCS_cell (hall 0 _ rfl)).2
  have g1 := (rdCS_cell (hall 1 _ rfl)).2
  have g2 := (rdCS_cell (hall 2 _ rfl)).2
  intro ν1 fr1
  have fr := fr1
  have nuE := fr.nu
  have aM := fun D hD => (panMove_w A hT c0 r0 1 4 20 1 c0_sz r0_sz D hD).trans (congrArg some t3)
  have aM1 := show valA Tryd.prog 12 #[.agg #[.string ⟨#[100]⟩, .string ⟨#[112]⟩, .string ⟨#[]⟩, .string ⟨#[]⟩, .string ⟨#[]⟩, .int .i64 600, .string ⟨#[69, 85, 82]⟩, .int .i64 5, .int .i64 0, .int .i64 0], .agg #[.int .i64 1, .string ⟨#[112]⟩, .string ⟨#[]⟩, .string ⟨#[115, 104, 111, 112, 98, 97, 110, 107]⟩, .string ⟨#[104, 111, 109, 101, 98, 97, 110, 107]⟩, .string ⟨#[109, 49]⟩, .string ⟨#[52, 48, 48, 48, 48, 48, 48, 48, 48, 48, 48, 48, 48, 48, 48, 50]⟩, .int .i64 1000, .string ⟨#[69, 85, 82]⟩, .int .i64 10, .int .i64 5411, .bool true], .int .i64 1, .int .i64 4, .int .i64 20, .int .i64 1] A1 = some (.tuple #[.agg #[.int .i64 0, .string ⟨#[]⟩, .string ⟨#[]⟩, .string ⟨#[]⟩, .string ⟨#[]⟩, .string ⟨#[]⟩, .string ⟨#[]⟩, .int .i64 0, .string ⟨#[]⟩, .int .i64 0, .int .i64 0, .bool false], .bool false, .int .i64 8]) from aM A1 sA1
  have nt := fun D (hD : SubA A1 D) => show valA Tryd.prog 10 #[.slice (some ⟨bk, off, none⟩) 3 vcap] D = some (.int .i64 600) from (panNet_w A1 _ _ vcap hS1 (by decide) D hD).trans (congrArg some (by kernel_rfl))
  have fl := fun D (hD : SubA A1 D) => show valA Tryd.prog 11 #[.agg #[.string ⟨#[100]⟩, .string ⟨#[112]⟩, .string ⟨#[]⟩, .string ⟨#[]⟩, .string ⟨#[]⟩, .int .i64 600, .string ⟨#[69, 85, 82]⟩, .int .i64 5, .int .i64 0, .int .i64 0], .slice (some ⟨bk, off, none⟩) 3 vcap] D = some (.bool true) from (panFinal_w A1 c0 _ _ vcap hS1 (by decide) D hD).trans (congrArg some (by kernel_rfl))
  have nb := look_ne (fr.2 0) lb
  have nb0 := look_ne (fr.2 0) l0
  have nb1 := look_ne (fr.2 0) l1
  have h1 : cs[off + 1]? = some (.string ⟨#[100, 45, 49]⟩) := by simpa using g0 1 (.string ⟨#[100, 45, 49]⟩) rfl
  have h2 : cs[off + 12]? = some (.int .i64 4) := by simpa using g1 0 (.int .i64 4) rfl
  have h3 : cs[off + 24]? = some (.int .i64 3) := by simpa using g2 0 (.int .i64 3) rfl
  have h4 : cs[off + 24 + 9]? = some (.int .i64 20) := by simpa using g2 9 (.int .i64 20) rfl
  have h5 : cs[off + 33]? = some (.int .i64 20) := h4
  simp (maxDischargeDepth := 16) only [argE_nil, argE_cons, ↓vmD, vmV, vmStd, Nat.reduceMul, ↓reduceIte, Nat.reduceAdd, Nat.reduceSub, Nat.reduceEqDiff, Nat.reduceLT, Nat.reduceLeDiff, reduceCtorEq, Int.reduceToNat, Int.reduceLT, Int.reduceLE, Int.reduceEq, Int.reduceNeg, Int.reduceBEq, Int.reduceBNe, String.reduceEq, forall_const, ↓vmDA, vmVA, ↓vmQA, vmR, vmRA, ↓vmSA, vmSV, tyS, nuE, SubA.skip, SubA.refl, fr.2, slIndexByte_v, indexByte_v, indexRune_v, containsRune_v, classOf_v, isWordByte_v, letter_v, digit_v, wordAt_v, rword_v, isName_v, risName_v, recId_v, rId13_v, moneyCur_v, rCur01_v, inTotal_v, rwithin1_v, exCard_v, recCheck_v, rrecCheck_v, dNext_v, rNext_v, holder_v, rholder_v, foll_v, rfoll_v, rDec_v, rMove_v, exmpl_v, l0, l1, aM1, nb, nb0, nb1, lb, h1, h2, h3, h4, h5, nt, fl, sA1, BEq.rfl]
  exact SubA.skip (sA1.none (fr.2 0)) sA1
theorem awake47_w (A : AH) (hT : TabA A) (B_ : AH) (hB_ : SubA A B_) : valA Tryd.prog 7 #[] B_ = some (.bool true) := valA_eq (pureA_at (by kernel_rfl) (awake47_h A hT) hB_)
theorem awake47_v (A : AH) (hT : TabA A) : valA Tryd.prog 7 #[] A = some (.bool true) := valA_eq (pureA_at (by kernel_rfl) (awake47_h A hT) (SubA.refl _))
end Go.Proofs.YtejcnpllodgmlaaDoor
