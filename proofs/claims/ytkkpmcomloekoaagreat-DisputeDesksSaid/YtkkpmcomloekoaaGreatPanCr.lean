/-
Card numbers, the reference's.
Conditions: none.
-/
import Derived.Test.YtkkpmcomloekoaaGreatRec
namespace Go.Proofs.YtkkpmcomloekoaaGreat
open Go.Vm
set_option linter.unusedSimpArgs false
set_option linter.unusedVariables false
set_option maxHeartbeats 1000000
set_option maxRecDepth 20000
theorem pbPanCr : type_of% (And.intro @slIndexByte_p (And.intro @indexByte_p (And.intro @indexRune_p (And.intro @containsRune_p (And.intro @classOf_p (And.intro @isWordByte_p (And.intro @letter_p (And.intro @digit_p (And.intro @wordAt_p (And.intro @rword_p (And.intro @isName_p (And.intro @risName_p (And.intro @recId_p (And.intro @rId13_p (And.intro @rId27_p (And.intro @moneyCur_p (And.intro @rCur01_p (And.intro @inTotal_p (And.intro @rwithin1_p (And.intro @monCheck_p (And.intro @rmonCheck_p (And.intro @exKind_p (And.intro @exNames_p (And.intro @exAmount_p (And.intro @exLimits_p (@exDate_p)))))))))))))))))))))))))) := And.intro @slIndexByte_p (And.intro @indexByte_p (And.intro @indexRune_p (And.intro @containsRune_p (And.intro @classOf_p (And.intro @isWordByte_p (And.intro @letter_p (And.intro @digit_p (And.intro @wordAt_p (And.intro @rword_p (And.intro @isName_p (And.intro @risName_p (And.intro @recId_p (And.intro @rId13_p (And.intro @rId27_p (And.intro @moneyCur_p (And.intro @rCur01_p (And.intro @inTotal_p (And.intro @rwithin1_p (And.intro @monCheck_p (And.intro @rmonCheck_p (And.intro @exKind_p (And.intro @exNames_p (And.intro @exAmount_p (And.intro @exLimits_p (@exDate_p)))))))))))))))))))))))))

theorem rdigits_h (s : ByteArray) (h : Heap) (hlen : s.size ≤ 200000000000000) : CallsH Tryz.prog 72 #[.string s] h fun r h' => r = .returned (.bool (digF s.toList)) ∧ h' = h := by
  refine callsH_of_den ⟨Tryz.prog, 72, Tryz.f72, 20, [0, 2, 3], _⟩ (args := [_]) Tryz.func72 rfl Tryz.ntmps72 (by simp) ?_
  simp only [argE_nil, argE_cons, ↓vmD, vmV, vmStd, Nat.reduceMul, ↓reduceIte, Nat.reduceAdd, Nat.reduceSub, Nat.reduceEqDiff, Nat.reduceLT, Nat.reduceLeDiff, reduceCtorEq, Int.reduceToNat, Int.reduceLT, Int.reduceLE, Int.reduceEq, Int.reduceNeg, Int.reduceBEq, Int.reduceBNe, String.reduceEq, forall_const, tyS, pbPanCr]
  obtain ⟨pos, hp0, hd⟩ : ∃ (pos : Nat), pos = 0 ∧ digF s.toList = digF (s.toList.drop pos) := ⟨0, rfl, rfl⟩
  rw [show (3, some (Value.int .i64 0)) = (3, some (Value.int .i64 (pos : Int))) by rw [hp0]; rfl]
  clear hp0
  generalize hl : s.toList.drop pos = l at hd
  induction l generalizing pos with
  | nil =>
    refine LoopAt.intro ?_
    simp only [argE_nil, argE_cons, ↓vmD, vmV, vmStd, Nat.reduceMul, ↓reduceIte, Nat.reduceAdd, Nat.reduceSub, Nat.reduceEqDiff, Nat.reduceLT, Nat.reduceLeDiff, reduceCtorEq, Int.reduceToNat, Int.reduceLT, Int.reduceLE, Int.reduceEq, Int.reduceNeg, Int.reduceBEq, Int.reduceBNe, String.reduceEq, forall_const, tyS, pbPanCr]
    rw [if_neg (by have := byte_end hl; simp; omega)]
    rw [hd]
    rfl
  | cons c l ih =>
    obtain ⟨hp, hc, hl', hsl, hb⟩ := byte_at hl
    refine LoopAt.intro ?_
    have hlt : ((pos : Int) < (s.size : Int)) = True := by simp; exact hp
    simp only [argE_nil, argE_cons, ↓vmD, vmV, vmStd, Nat.reduceMul, ↓reduceIte, Nat.reduceAdd, Nat.reduceSub, Nat.reduceEqDiff, Nat.reduceLT, Nat.reduceLeDiff, reduceCtorEq, Int.reduceToNat, Int.reduceLT, Int.reduceLE, Int.reduceEq, Int.reduceNeg, Int.reduceBEq, Int.reduceBNe, String.reduceEq, forall_const, tyS, pbPanCr, hlt, hb]
    simp (disch := omega) only [w_i64]
    simp only [digF] at hd
    have ih1 := ih (pos + 1) hl'
    split
    · split
      · have : (decide (48 ≤ c.toNat) && decide (c.toNat ≤ 57)) = false := by simp; omega
        rw [hd, this, Bool.false_and]
      · have : (decide (48 ≤ c.toNat) && decide (c.toNat ≤ 57)) = true := by simp; omega
        rw [this, Bool.true_and] at hd
        exact ih1 hd
    · have : (decide (48 ≤ c.toNat) && decide (c.toNat ≤ 57)) = false := by simp; omega
      rw [hd, this, Bool.false_and]
theorem rsum_h (s : ByteArray) (h : Heap) (hlen : s.size ≤ 200000000000000) (hdig : digF s.toList = true) : CallsH Tryz.prog 88 #[.string s, .int .i64 1] h fun r h' => r = .returned (.int .i64 (sumF s.toList)) ∧ h' = h := by
  refine callsH_of_den ⟨Tryz.prog, 88, Tryz.f88, 38, [0, 1, 4, 5, 6, 7], _⟩ (args := [_, _]) Tryz.func88 rfl Tryz.ntmps88 (by simp) ?_
  simp only [argE_nil, argE_cons, ↓vmD, vmV, vmStd, Nat.reduceMul, ↓reduceIte, Nat.reduceAdd, Nat.reduceSub, Nat.reduceEqDiff, Nat.reduceLT, Nat.reduceLeDiff, reduceCtorEq, Int.reduceToNat, Int.reduceLT, Int.reduceLE, Int.reduceEq, Int.reduceNeg, Int.reduceBEq, Int.reduceBNe, String.reduceEq, forall_const, tyS, pbPanCr]
  obtain ⟨pos, tot, ht, hd, h0⟩ : ∃ (pos : Nat) (tot : Int), (tot = 0 ∧ pos = 0) ∧ sumF s.toList = tot + sumF (s.toList.drop pos) ∧ 0 ≤ tot := ⟨0, 0, ⟨rfl, rfl⟩, by simp, by simp⟩
  rw [show (6, some (Value.int .i64 0)) = (6, some (Value.int .i64 (pos : Int))) by rw [ht.2]; rfl]
  rw [show (5, some (Value.int .i64 0)) = (5, some (Value.int .i64 tot)) by rw [ht.1]]
  clear ht
  have hdl := digF_drop pos _ hdig
  generalize hl : s.toList.drop pos = l at hd hdl
  induction l generalizing pos tot with
  | nil =>
    refine LoopAt.intro ?_
    simp only [argE_nil, argE_cons, ↓vmD, vmV, vmStd, Nat.reduceMul, ↓reduceIte, Nat.reduceAdd, Nat.reduceSub, Nat.reduceEqDiff, Nat.reduceLT, Nat.reduceLeDiff, reduceCtorEq, Int.reduceToNat, Int.reduceLT, Int.reduceLE, Int.reduceEq, Int.reduceNeg, Int.reduceBEq, Int.reduceBNe, String.reduceEq, forall_const, tyS, pbPanCr]
    rw [if_neg (by have := byte_end hl; simp; omega)]
    rw [hd]
    simp [sumF]
  | cons c l ih =>
    obtain ⟨hp, hc, hl', hsl, hb⟩ := byte_at hl
    refine LoopAt.intro ?_
    have hlt : ((pos : Int) < (s.size : Int)) = True := by simp; exact hp
    simp only [argE_nil, argE_cons, ↓vmD, vmV, vmStd, Nat.reduceMul, ↓reduceIte, Nat.reduceAdd, Nat.reduceSub, Nat.reduceEqDiff, Nat.reduceLT, Nat.reduceLeDiff, reduceCtorEq, Int.reduceToNat, Int.reduceLT, Int.reduceLE, Int.reduceEq, Int.reduceNeg, Int.reduceBEq, Int.reduceBNe, String.reduceEq, forall_const, tyS, pbPanCr, hlt, hb]
    simp only [digF, Bool.and_eq_true, decide_eq_true_eq] at hdl
    have hs1 := sumF_lb l hdl.2
    have hsum := sumF_lb _ hdig
    have hsz := size_list s
    simp only [sumF] at hd
    simp (disch := omega) only [w_i64, w_u8, Int.tmod_eq_emod_of_nonneg]
    split
    · rw [if_pos (by omega)] at hd
      split
      · rename_i h9
        rw [if_pos (by omega)] at hd
        exact LoopAt.weak (ih (pos + 1) _ (by omega) hl' (by omega) hdl.2) ⟨rfl, rfl, rfl, rfl, rfl, trivial⟩
      · rename_i h9
        rw [if_neg (by omega)] at hd
        exact LoopAt.weak (ih (pos + 1) _ (by omega) hl' (by omega) hdl.2) ⟨rfl, rfl, rfl, rfl, rfl, trivial⟩
    · rw [if_neg (by omega)] at hd
      exact LoopAt.weak (ih (pos + 1) _ (by omega) hl' (by omega) hdl.2) ⟨rfl, rfl, rfl, rfl, rfl, trivial⟩
/-- The check of a card number. -/
theorem rluhn_h (s : ByteArray) (h : Heap) (h1 : 1 ≤ s.size) (hlen : s.size ≤ 200000000000000) (hdig : digF s.toList = true) : CallsH Tryz.prog 73 #[.string s] h fun r h' => r = .returned (.bool (decide (sumF s.toList % 10 = 0))) ∧ h' = h := by
  refine callsH_of_den ⟨Tryz.prog, 73, Tryz.f73, 15, [0, 2], _⟩ (args := [_]) Tryz.func73 rfl Tryz.ntmps73 (by simp) ?_
  simp only [argE_nil, argE_cons, ↓vmD, vmV, vmStd, Nat.reduceMul, ↓reduceIte, Nat.reduceAdd, Nat.reduceSub, Nat.reduceEqDiff, Nat.reduceLT, Nat.reduceLeDiff, reduceCtorEq, Int.reduceToNat, Int.reduceLT, Int.reduceLE, Int.reduceEq, Int.reduceNeg, Int.reduceBEq, Int.reduceBNe, String.reduceEq, forall_const, tyS, pbPanCr, ne_empty h1]
  refine (rdigits_h s h hlen).mono ?_
  rintro e h2 ⟨rfl, rfl⟩
  simp only [argE_nil, argE_cons, ↓vmD, vmV, vmStd, Nat.reduceMul, ↓reduceIte, Nat.reduceAdd, Nat.reduceSub, Nat.reduceEqDiff, Nat.reduceLT, Nat.reduceLeDiff, reduceCtorEq, Int.reduceToNat, Int.reduceLT, Int.reduceLE, Int.reduceEq, Int.reduceNeg, Int.reduceBEq, Int.reduceBNe, String.reduceEq, forall_const, tyS, pbPanCr, hdig]
  refine (rsum_h s h2 hlen hdig).mono ?_
  rintro e h3 ⟨rfl, rfl⟩
  simp only [argE_nil, argE_cons, ↓vmD, vmV, vmStd, Nat.reduceMul, ↓reduceIte, Nat.reduceAdd, Nat.reduceSub, Nat.reduceEqDiff, Nat.reduceLT, Nat.reduceLeDiff, reduceCtorEq, Int.reduceToNat, Int.reduceLT, Int.reduceLE, Int.reduceEq, Int.reduceNeg, Int.reduceBEq, Int.reduceBNe, String.reduceEq, forall_const, tyS, pbPanCr]
  have := sumF_lb _ hdig
  rw [Int.tmod_eq_emod_of_nonneg (by omega)]
  rfl
theorem rcheck_h (s : ByteArray) (h : Heap) : CallsH Tryz.prog 58 #[.string s] h fun r h' => r = .returned (.int .i64 (chkF s)) ∧ h' = h := by
  refine callsH_of_den ⟨Tryz.prog, 58, Tryz.f58, 19, [0, 2], _⟩ (args := [_]) Tryz.func58 rfl Tryz.ntmps58 (by simp) ?_
  simp only [argE_nil, argE_cons, ↓vmD, vmV, vmStd, Nat.reduceMul, ↓reduceIte, Nat.reduceAdd, Nat.reduceSub, Nat.reduceEqDiff, Nat.reduceLT, Nat.reduceLeDiff, reduceCtorEq, Int.reduceToNat, Int.reduceLT, Int.reduceLE, Int.reduceEq, Int.reduceNeg, Int.reduceBEq, Int.reduceBNe, String.reduceEq, forall_const, tyS, pbPanCr]
  split
  · rw [chkF, if_pos (by omega)]
  split
  · rw [chkF, if_neg (by omega), if_pos (by omega)]
  refine (rdigits_h s h (by omega)).mono ?_
  rintro e h2 ⟨rfl, rfl⟩
  simp only [argE_nil, argE_cons, ↓vmD, vmV, vmStd, Nat.reduceMul, ↓reduceIte, Nat.reduceAdd, Nat.reduceSub, Nat.reduceEqDiff, Nat.reduceLT, Nat.reduceLeDiff, reduceCtorEq, Int.reduceToNat, Int.reduceLT, Int.reduceLE, Int.reduceEq, Int.reduceNeg, Int.reduceBEq, Int.reduceBNe, String.reduceEq, forall_const, tyS, pbPanCr]
  split
  · rename_i hd
    rw [chkF, if_neg (by omega), if_neg (by omega), if_pos hd]
  rename_i hd
  simp only [Bool.not_eq_false] at hd
  refine (rluhn_h s h2 (by omega) (by omega) hd).mono ?_
  rintro e h3 ⟨rfl, rfl⟩
  simp only [argE_nil, argE_cons, ↓vmD, vmV, vmStd, Nat.reduceMul, ↓reduceIte, Nat.reduceAdd, Nat.reduceSub, Nat.reduceEqDiff, Nat.reduceLT, Nat.reduceLeDiff, reduceCtorEq, Int.reduceToNat, Int.reduceLT, Int.reduceLE, Int.reduceEq, Int.reduceNeg, Int.reduceBEq, Int.reduceBNe, String.reduceEq, forall_const, tyS, pbPanCr]
  have e1 : ¬ s.size < 12 := by omega
  have e2 : ¬ 19 < s.size := by omega
  by_cases h10 : sumF s.toList % 10 = 0 <;> simp [chkF, e1, e2, hd, h10]
theorem rcheck_p (s : ByteArray) (h : Heap) (Q : Ending → Heap → Prop) : CallsX Tryz.prog 58 #[.string s] h Q = Q (.returned (.int .i64 (chkF s))) h := CallsX.exact (by kernel_rfl) (rcheck_h s h)
end Go.Proofs.YtkkpmcomloekoaaGreat
