/-
Card numbers.
Conditions: none.
-/
import Derived.Test.YtejcnpllodgmlaaDoorNam
import Derived.Laws.RangeAny
namespace Go.Proofs.YtejcnpllodgmlaaDoor
open Go.Vm
set_option linter.unusedSimpArgs false
set_option linter.unusedVariables false
set_option maxHeartbeats 1000000
set_option maxRecDepth 20000

def digF : List UInt8 → Bool
  | [] => true
  | c :: l => (decide (48 ≤ c.toNat) && decide (c.toNat ≤ 57)) && digF l
def sumF : List UInt8 → Int
  | [] => 0
  | c :: l => (if (l.length + 1) % 2 = 0 then (if 9 < 2 * ((c.toNat : Int) - 48) then 2 * ((c.toNat : Int) - 48) - 9 else 2 * ((c.toNat : Int) - 48)) else (c.toNat : Int) - 48) + sumF l

set_option maxRecDepth 20000 in
theorem areDigits_h (s : ByteArray) (h : Heap) : CallsH Tryd.prog 52 #[.string s] h fun r h' => r = .returned (.bool (digF s.toList)) ∧ Grew h h' := by
  refine callsH_of_den ⟨Tryd.prog, 52, Tryd.f52, 16, [0, 2, 4, 6, 7], _⟩ (args := [_]) Tryd.func52 rfl Tryd.ntmps52 (by simp) ?_
  simp only [argE_nil, argE_cons, ↓vmD, vmV, vmStd, Nat.reduceMul, ↓reduceIte, Nat.reduceAdd, Nat.reduceSub, Nat.reduceEqDiff, Nat.reduceLT, Nat.reduceLeDiff, reduceCtorEq, Int.reduceToNat, Int.reduceLT, Int.reduceLE, Int.reduceEq, Int.reduceNeg, Int.reduceBEq, Int.reduceBNe, String.reduceEq, forall_const, tyS, slIndexByte_p, indexByte_p, indexRune_p, containsRune_p, classOf_p, isWordByte_p, letter_p, digit_p, wordAt_p, rword_p, isName_p, risName_p]
  refine rw_range_string Tryd.underlying9 ?_
  simp only [argE_nil, argE_cons, ↓vmD, vmV, vmStd, Nat.reduceMul, ↓reduceIte, Nat.reduceAdd, Nat.reduceSub, Nat.reduceEqDiff, Nat.reduceLT, Nat.reduceLeDiff, reduceCtorEq, Int.reduceToNat, Int.reduceLT, Int.reduceLE, Int.reduceEq, Int.reduceNeg, Int.reduceBEq, Int.reduceBNe, String.reduceEq, forall_const, tyS, slIndexByte_p, indexByte_p, indexRune_p, containsRune_p, classOf_p, isWordByte_p, letter_p, digit_p, wordAt_p, rword_p, isName_p, risName_p]
  have hG := Grew.push h (.stringIter s 0)
  obtain ⟨pos, hg, hd⟩ : ∃ pos, (h.push (.stringIter s 0))[h.size]? = some (.stringIter s pos) ∧ digF s.toList = digF (s.toList.drop pos) := ⟨0, by simp, rfl⟩
  generalize h.push (.stringIter s 0) = h1 at hg hG ⊢
  generalize hl : s.toList.drop pos = l at hd
  induction l generalizing pos h1 with
  | nil =>
    refine LoopAt.intro ?_
    simp only [argE_nil, argE_cons, ↓vmD, vmV, vmStd, Nat.reduceMul, ↓reduceIte, Nat.reduceAdd, Nat.reduceSub, Nat.reduceEqDiff, Nat.reduceLT, Nat.reduceLeDiff, reduceCtorEq, Int.reduceToNat, Int.reduceLT, Int.reduceLE, Int.reduceEq, Int.reduceNeg, Int.reduceBEq, Int.reduceBNe, String.reduceEq, forall_const, tyS, slIndexByte_p, indexByte_p, indexRune_p, containsRune_p, classOf_p, isWordByte_p, letter_p, digit_p, wordAt_p, rword_p, isName_p, risName_p]
    refine rw_next_string hg ?_
    rw [if_neg (byte_end hl)]
    simp only [argE_nil, argE_cons, ↓vmD, vmV, vmStd, Nat.reduceMul, ↓reduceIte, Nat.reduceAdd, Nat.reduceSub, Nat.reduceEqDiff, Nat.reduceLT, Nat.reduceLeDiff, reduceCtorEq, Int.reduceToNat, Int.reduceLT, Int.reduceLE, Int.reduceEq, Int.reduceNeg, Int.reduceBEq, Int.reduceBNe, String.reduceEq, forall_const, tyS, slIndexByte_p, indexByte_p, indexRune_p, containsRune_p, classOf_p, isWordByte_p, letter_p, digit_p, wordAt_p, rword_p, isName_p, risName_p]
    rw [hd]
    exact ⟨rfl, hG⟩
  | cons c l ih =>
    obtain ⟨hp, hc, hl', _⟩ := byte_at hl
    refine LoopAt.intro ?_
    simp only [argE_nil, argE_cons, ↓vmD, vmV, vmStd, Nat.reduceMul, ↓reduceIte, Nat.reduceAdd, Nat.reduceSub, Nat.reduceEqDiff, Nat.reduceLT, Nat.reduceLeDiff, reduceCtorEq, Int.reduceToNat, Int.reduceLT, Int.reduceLE, Int.reduceEq, Int.reduceNeg, Int.reduceBEq, Int.reduceBNe, String.reduceEq, forall_const, tyS, slIndexByte_p, indexByte_p, indexRune_p, containsRune_p, classOf_p, isWordByte_p, letter_p, digit_p, wordAt_p, rword_p, isName_p, risName_p]
    refine rw_next_string hg ?_
    rw [if_pos hp]
    simp only [argE_nil, argE_cons, ↓vmD, vmV, vmStd, Nat.reduceMul, ↓reduceIte, Nat.reduceAdd, Nat.reduceSub, Nat.reduceEqDiff, Nat.reduceLT, Nat.reduceLeDiff, reduceCtorEq, Int.reduceToNat, Int.reduceLT, Int.reduceLE, Int.reduceEq, Int.reduceNeg, Int.reduceBEq, Int.reduceBNe, String.reduceEq, forall_const, tyS, slIndexByte_p, indexByte_p, indexRune_p, containsRune_p, classOf_p, isWordByte_p, letter_p, digit_p, wordAt_p, rword_p, isName_p, risName_p]
    by_cases ha : c.toNat < 128
    · have hdc := decode_ascii s pos hp (by rw [hc]; exact ha)
      rw [hc] at hdc
      rw [hdc]
      split
      · rename_i hb
        refine ⟨?_, hG.set (Nat.le_refl _) _⟩
        rw [hd, digF]
        have : (decide (48 ≤ c.toNat) && decide (c.toNat ≤ 57)) = false := by simp; omega
        rw [this]; rfl
      · rename_i hb
        refine LoopAt.weak (ih (pos + 1) _ ?_ (hG.set (Nat.le_refl _) _) hl' ?_) ⟨rfl, rfl, rfl, trivial⟩
        · simp [lt_of_get hg]
        · rw [hd, digF]
          have : (decide (48 ≤ c.toNat) && decide (c.toNat ≤ 57)) = true := by simp; omega
          rw [this]; rfl
    · have hdc := decode_high s pos hp (by rw [hc]; omega)
      rw [if_pos (by omega)]
      refine ⟨?_, hG.set (Nat.le_refl _) _⟩
      rw [hd, digF]
      have : (decide (48 ≤ c.toNat) && decide (c.toNat ≤ 57)) = false := by simp; omega
      rw [this]; rfl
theorem sumF_lb : ∀ (l : List UInt8), digF l = true → 0 ≤ sumF l ∧ sumF l ≤ 9 * l.length
  | [], _ => by simp [sumF]
  | c :: l, h => by
    simp only [digF, Bool.and_eq_true, decide_eq_true_eq] at h
    have := sumF_lb l h.2
    simp only [sumF, List.length_cons]
    split <;> (try split) <;> omega
theorem digF_drop : ∀ (n : Nat) (l : List UInt8), digF l = true → digF (l.drop n) = true
  | 0, _, h => h
  | n + 1, [], h => rfl
  | n + 1, c :: l, h => by
    simp only [digF, Bool.and_eq_true] at h
    exact digF_drop n l h.2
theorem sum_h (s : ByteArray) (h : Heap) (hlen : s.size ≤ 200000000000000) (hdig : digF s.toList = true) : CallsH Tryd.prog 61 #[.string s] h fun r h' => r = .returned (.int .i64 (sumF s.toList)) ∧ Grew h h' := by
  refine callsH_of_den ⟨Tryd.prog, 61, Tryd.f61, 32, [0, 2, 3, 4, 5, 6, 8, 9], _⟩ (args := [_]) Tryd.func61 rfl Tryd.ntmps61 (by simp) ?_
  simp only [argE_nil, argE_cons, ↓vmD, vmV, vmStd, Nat.reduceMul, ↓reduceIte, Nat.reduceAdd, Nat.reduceSub, Nat.reduceEqDiff, Nat.reduceLT, Nat.reduceLeDiff, reduceCtorEq, Int.reduceToNat, Int.reduceLT, Int.reduceLE, Int.reduceEq, Int.reduceNeg, Int.reduceBEq, Int.reduceBNe, String.reduceEq, forall_const, tyS, slIndexByte_p, indexByte_p, indexRune_p, containsRune_p, classOf_p, isWordByte_p, letter_p, digit_p, wordAt_p, rword_p, isName_p, risName_p]
  refine rw_range_string Tryd.underlying9 ?_
  simp only [argE_nil, argE_cons, ↓vmD, vmV, vmStd, Nat.reduceMul, ↓reduceIte, Nat.reduceAdd, Nat.reduceSub, Nat.reduceEqDiff, Nat.reduceLT, Nat.reduceLeDiff, reduceCtorEq, Int.reduceToNat, Int.reduceLT, Int.reduceLE, Int.reduceEq, Int.reduceNeg, Int.reduceBEq, Int.reduceBNe, String.reduceEq, forall_const, tyS, slIndexByte_p, indexByte_p, indexRune_p, containsRune_p, classOf_p, isWordByte_p, letter_p, digit_p, wordAt_p, rword_p, isName_p, risName_p]
  have hG := Grew.push h (.stringIter s 0)
  have hsz := size_list s
  have hsum := sumF_lb _ hdig
  obtain ⟨pos, tot, ht, hg, hd, h0⟩ : ∃ (pos : Nat) (tot : Int), tot = 0 ∧ (h.push (.stringIter s 0))[h.size]? = some (.stringIter s pos) ∧ sumF s.toList = tot + sumF (s.toList.drop pos) ∧ 0 ≤ tot := ⟨0, 0, rfl, by simp, by simp, by simp⟩
  rw [show (3, some (Value.int .i64 0)) = (3, some (Value.int .i64 tot)) by rw [ht]]
  clear ht
  generalize h.push (.stringIter s 0) = h1 at hg hG ⊢
  have hdl := digF_drop pos _ hdig
  generalize hl : s.toList.drop pos = l at hd hdl
  induction l generalizing pos h1 tot with
  | nil =>
    refine LoopAt.intro ?_
    simp only [argE_nil, argE_cons, ↓vmD, vmV, vmStd, Nat.reduceMul, ↓reduceIte, Nat.reduceAdd, Nat.reduceSub, Nat.reduceEqDiff, Nat.reduceLT, Nat.reduceLeDiff, reduceCtorEq, Int.reduceToNat, Int.reduceLT, Int.reduceLE, Int.reduceEq, Int.reduceNeg, Int.reduceBEq, Int.reduceBNe, String.reduceEq, forall_const, tyS, slIndexByte_p, indexByte_p, indexRune_p, containsRune_p, classOf_p, isWordByte_p, letter_p, digit_p, wordAt_p, rword_p, isName_p, risName_p]
    refine rw_next_string hg ?_
    rw [if_neg (byte_end hl)]
    simp only [argE_nil, argE_cons, ↓vmD, vmV, vmStd, Nat.reduceMul, ↓reduceIte, Nat.reduceAdd, Nat.reduceSub, Nat.reduceEqDiff, Nat.reduceLT, Nat.reduceLeDiff, reduceCtorEq, Int.reduceToNat, Int.reduceLT, Int.reduceLE, Int.reduceEq, Int.reduceNeg, Int.reduceBEq, Int.reduceBNe, String.reduceEq, forall_const, tyS, slIndexByte_p, indexByte_p, indexRune_p, containsRune_p, classOf_p, isWordByte_p, letter_p, digit_p, wordAt_p, rword_p, isName_p, risName_p]
    rw [hd]
    simp only [sumF, Int.add_zero]
    exact ⟨trivial, hG⟩
  | cons c l ih =>
    obtain ⟨hp, hc, hl', hsl, hb⟩ := byte_at hl
    refine LoopAt.intro ?_
    simp only [argE_nil, argE_cons, ↓vmD, vmV, vmStd, Nat.reduceMul, ↓reduceIte, Nat.reduceAdd, Nat.reduceSub, Nat.reduceEqDiff, Nat.reduceLT, Nat.reduceLeDiff, reduceCtorEq, Int.reduceToNat, Int.reduceLT, Int.reduceLE, Int.reduceEq, Int.reduceNeg, Int.reduceBEq, Int.reduceBNe, String.reduceEq, forall_const, tyS, slIndexByte_p, indexByte_p, indexRune_p, containsRune_p, classOf_p, isWordByte_p, letter_p, digit_p, wordAt_p, rword_p, isName_p, risName_p]
    refine rw_next_string hg ?_
    rw [if_pos hp]
    simp only [argE_nil, argE_cons, ↓vmD, vmV, vmStd, Nat.reduceMul, ↓reduceIte, Nat.reduceAdd, Nat.reduceSub, Nat.reduceEqDiff, Nat.reduceLT, Nat.reduceLeDiff, reduceCtorEq, Int.reduceToNat, Int.reduceLT, Int.reduceLE, Int.reduceEq, Int.reduceNeg, Int.reduceBEq, Int.reduceBNe, String.reduceEq, forall_const, tyS, slIndexByte_p, indexByte_p, indexRune_p, containsRune_p, classOf_p, isWordByte_p, letter_p, digit_p, wordAt_p, rword_p, isName_p, risName_p]
    simp only [digF, Bool.and_eq_true, decide_eq_true_eq] at hdl
    have hdc := decode_ascii s pos hp (by rw [hc]; omega)
    rw [hc] at hdc
    rw [hdc]
    have hs1 := sumF_lb l hdl.2
    simp only [sumF] at hd
    simp (disch := omega) only [w_i64, w_i32, Int.tmod_eq_emod_of_nonneg, beq_iff_eq]
    split
    · rw [if_pos (by omega)] at hd
      split
      · rename_i h9
        rw [if_pos (by omega)] at hd
        refine LoopAt.weak (ih (pos + 1) _ ?_ _ ?_ (hG.set (Nat.le_refl _) _) hl' ?_ hdl.2) ⟨rfl, rfl, rfl, rfl, trivial⟩
        · omega
        · simp [lt_of_get hg]
        · omega
      · rename_i h9
        rw [if_neg (by omega)] at hd
        refine LoopAt.weak (ih (pos + 1) _ ?_ _ ?_ (hG.set (Nat.le_refl _) _) hl' ?_ hdl.2) ⟨rfl, rfl, rfl, rfl, trivial⟩
        · omega
        · simp [lt_of_get hg]
        · omega
    · rw [if_neg (by omega)] at hd
      refine LoopAt.weak (ih (pos + 1) _ ?_ _ ?_ (hG.set (Nat.le_refl _) _) hl' ?_ hdl.2) ⟨rfl, rfl, rfl, rfl, trivial⟩
      · omega
      · simp [lt_of_get hg]
      · omega
theorem rdigits_h (s : ByteArray) (h : Heap) (hlen : s.size ≤ 200000000000000) : CallsH Tryd.prog 46 #[.string s] h fun r h' => r = .returned (.bool (digF s.toList)) ∧ h' = h := by
  refine callsH_of_den ⟨Tryd.prog, 46, Tryd.f46, 20, [0, 2, 3], _⟩ (args := [_]) Tryd.func46 rfl Tryd.ntmps46 (by simp) ?_
  simp only [argE_nil, argE_cons, ↓vmD, vmV, vmStd, Nat.reduceMul, ↓reduceIte, Nat.reduceAdd, Nat.reduceSub, Nat.reduceEqDiff, Nat.reduceLT, Nat.reduceLeDiff, reduceCtorEq, Int.reduceToNat, Int.reduceLT, Int.reduceLE, Int.reduceEq, Int.reduceNeg, Int.reduceBEq, Int.reduceBNe, String.reduceEq, forall_const, tyS, slIndexByte_p, indexByte_p, indexRune_p, containsRune_p, classOf_p, isWordByte_p, letter_p, digit_p, wordAt_p, rword_p, isName_p, risName_p]
  obtain ⟨pos, hp0, hd⟩ : ∃ (pos : Nat), pos = 0 ∧ digF s.toList = digF (s.toList.drop pos) := ⟨0, rfl, rfl⟩
  rw [show (3, some (Value.int .i64 0)) = (3, some (Value.int .i64 (pos : Int))) by rw [hp0]; rfl]
  clear hp0
  generalize hl : s.toList.drop pos = l at hd
  induction l generalizing pos with
  | nil =>
    refine LoopAt.intro ?_
    simp only [argE_nil, argE_cons, ↓vmD, vmV, vmStd, Nat.reduceMul, ↓reduceIte, Nat.reduceAdd, Nat.reduceSub, Nat.reduceEqDiff, Nat.reduceLT, Nat.reduceLeDiff, reduceCtorEq, Int.reduceToNat, Int.reduceLT, Int.reduceLE, Int.reduceEq, Int.reduceNeg, Int.reduceBEq, Int.reduceBNe, String.reduceEq, forall_const, tyS, slIndexByte_p, indexByte_p, indexRune_p, containsRune_p, classOf_p, isWordByte_p, letter_p, digit_p, wordAt_p, rword_p, isName_p, risName_p]
    rw [if_neg (by have := byte_end hl; simp; omega)]
    rw [hd]
    rfl
  | cons c l ih =>
    obtain ⟨hp, hc, hl', hsl, hb⟩ := byte_at hl
    refine LoopAt.intro ?_
    have hlt : ((pos : Int) < (s.size : Int)) = True := by simp; exact hp
    simp only [argE_nil, argE_cons, ↓vmD, vmV, vmStd, Nat.reduceMul, ↓reduceIte, Nat.reduceAdd, Nat.reduceSub, Nat.reduceEqDiff, Nat.reduceLT, Nat.reduceLeDiff, reduceCtorEq, Int.reduceToNat, Int.reduceLT, Int.reduceLE, Int.reduceEq, Int.reduceNeg, Int.reduceBEq, Int.reduceBNe, String.reduceEq, forall_const, tyS, slIndexByte_p, indexByte_p, indexRune_p, containsRune_p, classOf_p, isWordByte_p, letter_p, digit_p, wordAt_p, rword_p, isName_p, risName_p, hlt, hb]
    simp (disch := omega) only [w_i64]
    simp only [digF] at hd
    have ih1 := ih (pos + 1) hl'
    split
    · split
      · have : (decide (48 ≤ c.toNat) && decide (c.toNat ≤ 57)) = false := by simp; omega
        rw [hd, this, Bool.false_and]
      · have : (decide (48 ≤ c.toNat) && decide (c.toNat ≤ 57)) = true := by simp; omega
        rw [this, Bool.true_and] at hd
        exact ih1 hd
    · have : (decide (48 ≤ c.toNat) && decide (c.toNat ≤ 57)) = false := by simp; omega
      rw [hd, this, Bool.false_and]
theorem rsum_h (s : ByteArray) (h : Heap) (hlen : s.size ≤ 200000000000000) (hdig : digF s.toList = true) : CallsH Tryd.prog 58 #[.string s, .int .i64 1] h fun r h' => r = .returned (.int .i64 (sumF s.toList)) ∧ h' = h := by
  refine callsH_of_den ⟨Tryd.prog, 58, Tryd.f58, 38, [0, 1, 4, 5, 6, 7], _⟩ (args := [_, _]) Tryd.func58 rfl Tryd.ntmps58 (by simp) ?_
  simp only [argE_nil, argE_cons, ↓vmD, vmV, vmStd, Nat.reduceMul, ↓reduceIte, Nat.reduceAdd, Nat.reduceSub, Nat.reduceEqDiff, Nat.reduceLT, Nat.reduceLeDiff, reduceCtorEq, Int.reduceToNat, Int.reduceLT, Int.reduceLE, Int.reduceEq, Int.reduceNeg, Int.reduceBEq, Int.reduceBNe, String.reduceEq, forall_const, tyS, slIndexByte_p, indexByte_p, indexRune_p, containsRune_p, classOf_p, isWordByte_p, letter_p, digit_p, wordAt_p, rword_p, isName_p, risName_p]
  obtain ⟨pos, tot, ht, hd, h0⟩ : ∃ (pos : Nat) (tot : Int), (tot = 0 ∧ pos = 0) ∧ sumF s.toList = tot + sumF (s.toList.drop pos) ∧ 0 ≤ tot := ⟨0, 0, ⟨rfl, rfl⟩, by simp, by simp⟩
  rw [show (6, some (Value.int .i64 0)) = (6, some (Value.int .i64 (pos : Int))) by rw [ht.2]; rfl]
  rw [show (5, some (Value.int .i64 0)) = (5, some (Value.int .i64 tot)) by rw [ht.1]]
  clear ht
  have hdl := digF_drop pos _ hdig
  generalize hl : s.toList.drop pos = l at hd hdl
  induction l generalizing pos tot with
  | nil =>
    refine LoopAt.intro ?_
    simp only [argE_nil, argE_cons, ↓vmD, vmV, vmStd, Nat.reduceMul, ↓reduceIte, Nat.reduceAdd, Nat.reduceSub, Nat.reduceEqDiff, Nat.reduceLT, Nat.reduceLeDiff, reduceCtorEq, Int.reduceToNat, Int.reduceLT, Int.reduceLE, Int.reduceEq, Int.reduceNeg, Int.reduceBEq, Int.reduceBNe, String.reduceEq, forall_const, tyS, slIndexByte_p, indexByte_p, indexRune_p, containsRune_p, classOf_p, isWordByte_p, letter_p, digit_p, wordAt_p, rword_p, isName_p, risName_p]
    rw [if_neg (by have := byte_end hl; simp; omega)]
    rw [hd]
    simp [sumF]
  | cons c l ih =>
    obtain ⟨hp, hc, hl', hsl, hb⟩ := byte_at hl
    refine LoopAt.intro ?_
    have hlt : ((pos : Int) < (s.size : Int)) = True := by simp; exact hp
    simp only [argE_nil, argE_cons, ↓vmD, vmV, vmStd, Nat.reduceMul, ↓reduceIte, Nat.reduceAdd, Nat.reduceSub, Nat.reduceEqDiff, Nat.reduceLT, Nat.reduceLeDiff, reduceCtorEq, Int.reduceToNat, Int.reduceLT, Int.reduceLE, Int.reduceEq, Int.reduceNeg, Int.reduceBEq, Int.reduceBNe, String.reduceEq, forall_const, tyS, slIndexByte_p, indexByte_p, indexRune_p, containsRune_p, classOf_p, isWordByte_p, letter_p, digit_p, wordAt_p, rword_p, isName_p, risName_p, hlt, hb]
    simp only [digF, Bool.and_eq_true, decide_eq_true_eq] at hdl
    have hs1 := sumF_lb l hdl.2
    have hsum := sumF_lb _ hdig
    have hsz := size_list s
    simp only [sumF] at hd
    simp (disch := omega) only [w_i64, w_u8, Int.tmod_eq_emod_of_nonneg]
    split
    · rw [if_pos (by omega)] at hd
      split
      · rename_i h9
        rw [if_pos (by omega)] at hd
        exact LoopAt.weak (ih (pos + 1) _ (by omega) hl' (by omega) hdl.2) ⟨rfl, rfl, rfl, rfl, rfl, trivial⟩
      · rename_i h9
        rw [if_neg (by omega)] at hd
        exact LoopAt.weak (ih (pos + 1) _ (by omega) hl' (by omega) hdl.2) ⟨rfl, rfl, rfl, rfl, rfl, trivial⟩
    · rw [if_neg (by omega)] at hd
      exact LoopAt.weak (ih (pos + 1) _ (by omega) hl' (by omega) hdl.2) ⟨rfl, rfl, rfl, rfl, rfl, trivial⟩
/-- The check of a card number. -/
def chkF (s : ByteArray) : Int :=
  if s.size < 12 then 1 else if 19 < s.size then 3 else if digF s.toList = false then 2 else if sumF s.toList % 10 = 0 then 0 else 9
theorem ne_empty {s : ByteArray} (h : 1 ≤ s.size) : (s.toList == []) = false := by
  have := size_list s
  cases hl : s.toList with
  | nil => rw [hl] at this; simp at this; omega
  | cons c l => rfl
theorem luhn_h (s : ByteArray) (h : Heap) (h1 : 1 ≤ s.size) (hlen : s.size ≤ 200000000000000) (hdig : digF s.toList = true) : CallsH Tryd.prog 53 #[.string s] h fun r h' => r = .returned (.bool (decide (sumF s.toList % 10 = 0))) ∧ Grew h h' := by
  refine callsH_of_den ⟨Tryd.prog, 53, Tryd.f53, 15, [0, 2], _⟩ (args := [_]) Tryd.func53 rfl Tryd.ntmps53 (by simp) ?_
  simp only [argE_nil, argE_cons, ↓vmD, vmV, vmStd, Nat.reduceMul, ↓reduceIte, Nat.reduceAdd, Nat.reduceSub, Nat.reduceEqDiff, Nat.reduceLT, Nat.reduceLeDiff, reduceCtorEq, Int.reduceToNat, Int.reduceLT, Int.reduceLE, Int.reduceEq, Int.reduceNeg, Int.reduceBEq, Int.reduceBNe, String.reduceEq, forall_const, tyS, slIndexByte_p, indexByte_p, indexRune_p, containsRune_p, classOf_p, isWordByte_p, letter_p, digit_p, wordAt_p, rword_p, isName_p, risName_p, ne_empty h1]
  refine (areDigits_h s h).mono ?_
  rintro e h2 ⟨rfl, g2⟩
  simp only [argE_nil, argE_cons, ↓vmD, vmV, vmStd, Nat.reduceMul, ↓reduceIte, Nat.reduceAdd, Nat.reduceSub, Nat.reduceEqDiff, Nat.reduceLT, Nat.reduceLeDiff, reduceCtorEq, Int.reduceToNat, Int.reduceLT, Int.reduceLE, Int.reduceEq, Int.reduceNeg, Int.reduceBEq, Int.reduceBNe, String.reduceEq, forall_const, tyS, slIndexByte_p, indexByte_p, indexRune_p, containsRune_p, classOf_p, isWordByte_p, letter_p, digit_p, wordAt_p, rword_p, isName_p, risName_p, hdig]
  refine (sum_h s h2 hlen hdig).mono ?_
  rintro e h3 ⟨rfl, g3⟩
  simp only [argE_nil, argE_cons, ↓vmD, vmV, vmStd, Nat.reduceMul, ↓reduceIte, Nat.reduceAdd, Nat.reduceSub, Nat.reduceEqDiff, Nat.reduceLT, Nat.reduceLeDiff, reduceCtorEq, Int.reduceToNat, Int.reduceLT, Int.reduceLE, Int.reduceEq, Int.reduceNeg, Int.reduceBEq, Int.reduceBNe, String.reduceEq, forall_const, tyS, slIndexByte_p, indexByte_p, indexRune_p, containsRune_p, classOf_p, isWordByte_p, letter_p, digit_p, wordAt_p, rword_p, isName_p, risName_p]
  have := sumF_lb _ hdig
  rw [Int.tmod_eq_emod_of_nonneg (by omega)]
  exact ⟨rfl, g2.trans g3⟩
theorem check_h (s : ByteArray) (h : Heap) : CallsH Tryd.prog 41 #[.string s] h fun r h' => r = .returned (.int .i64 (chkF s)) ∧ Grew h h' := by
  refine callsH_of_den ⟨Tryd.prog, 41, Tryd.f41, 19, [0, 2], _⟩ (args := [_]) Tryd.func41 rfl Tryd.ntmps41 (by simp) ?_
  simp only [argE_nil, argE_cons, ↓vmD, vmV, vmStd, Nat.reduceMul, ↓reduceIte, Nat.reduceAdd, Nat.reduceSub, Nat.reduceEqDiff, Nat.reduceLT, Nat.reduceLeDiff, reduceCtorEq, Int.reduceToNat, Int.reduceLT, Int.reduceLE, Int.reduceEq, Int.reduceNeg, Int.reduceBEq, Int.reduceBNe, String.reduceEq, forall_const, tyS, slIndexByte_p, indexByte_p, indexRune_p, containsRune_p, classOf_p, isWordByte_p, letter_p, digit_p, wordAt_p, rword_p, isName_p, risName_p]
  split
  · rw [chkF, if_pos (by omega)]; exact ⟨rfl, .refl h⟩
  split
  · rw [chkF, if_neg (by omega), if_pos (by omega)]; exact ⟨rfl, .refl h⟩
  refine (areDigits_h s h).mono ?_
  rintro e h2 ⟨rfl, g2⟩
  simp only [argE_nil, argE_cons, ↓vmD, vmV, vmStd, Nat.reduceMul, ↓reduceIte, Nat.reduceAdd, Nat.reduceSub, Nat.reduceEqDiff, Nat.reduceLT, Nat.reduceLeDiff, reduceCtorEq, Int.reduceToNat, Int.reduceLT, Int.reduceLE, Int.reduceEq, Int.reduceNeg, Int.reduceBEq, Int.reduceBNe, String.reduceEq, forall_const, tyS, slIndexByte_p, indexByte_p, indexRune_p, containsRune_p, classOf_p, isWordByte_p, letter_p, digit_p, wordAt_p, rword_p, isName_p, risName_p]
  split
  · rename_i hd
    rw [chkF, if_neg (by omega), if_neg (by omega), if_pos hd]; exact ⟨rfl, g2⟩
  rename_i hd
  simp only [Bool.not_eq_false] at hd
  refine (luhn_h s h2 (by omega) (by omega) hd).mono ?_
  rintro e h3 ⟨rfl, g3⟩
  simp only [argE_nil, argE_cons, ↓vmD, vmV, vmStd, Nat.reduceMul, ↓reduceIte, Nat.reduceAdd, Nat.reduceSub, Nat.reduceEqDiff, Nat.reduceLT, Nat.reduceLeDiff, reduceCtorEq, Int.reduceToNat, Int.reduceLT, Int.reduceLE, Int.reduceEq, Int.reduceNeg, Int.reduceBEq, Int.reduceBNe, String.reduceEq, forall_const, tyS, slIndexByte_p, indexByte_p, indexRune_p, containsRune_p, classOf_p, isWordByte_p, letter_p, digit_p, wordAt_p, rword_p, isName_p, risName_p]
  have e1 : ¬ s.size < 12 := by omega
  have e2 : ¬ 19 < s.size := by omega
  by_cases h10 : sumF s.toList % 10 = 0
  · simp only [chkF, e1, e2, hd, h10, if_false, if_true, Bool.true_eq_false, not_true_eq_false]; exact ⟨trivial, g2.trans g3⟩
  · simp only [chkF, e1, e2, hd, h10, if_false, if_true, Bool.true_eq_false, not_false_eq_true]; exact ⟨trivial, g2.trans g3⟩
theorem rluhn_h (s : ByteArray) (h : Heap) (h1 : 1 ≤ s.size) (hlen : s.size ≤ 200000000000000) (hdig : digF s.toList = true) : CallsH Tryd.prog 47 #[.string s] h fun r h' => r = .returned (.bool (decide (sumF s.toList % 10 = 0))) ∧ h' = h := by
  refine callsH_of_den ⟨Tryd.prog, 47, Tryd.f47, 15, [0, 2], _⟩ (args := [_]) Tryd.func47 rfl Tryd.ntmps47 (by simp) ?_
  simp only [argE_nil, argE_cons, ↓vmD, vmV, vmStd, Nat.reduceMul, ↓reduceIte, Nat.reduceAdd, Nat.reduceSub, Nat.reduceEqDiff, Nat.reduceLT, Nat.reduceLeDiff, reduceCtorEq, Int.reduceToNat, Int.reduceLT, Int.reduceLE, Int.reduceEq, Int.reduceNeg, Int.reduceBEq, Int.reduceBNe, String.reduceEq, forall_const, tyS, slIndexByte_p, indexByte_p, indexRune_p, containsRune_p, classOf_p, isWordByte_p, letter_p, digit_p, wordAt_p, rword_p, isName_p, risName_p, ne_empty h1]
  refine (rdigits_h s h hlen).mono ?_
  rintro e h2 ⟨rfl, rfl⟩
  simp only [argE_nil, argE_cons, ↓vmD, vmV, vmStd, Nat.reduceMul, ↓reduceIte, Nat.reduceAdd, Nat.reduceSub, Nat.reduceEqDiff, Nat.reduceLT, Nat.reduceLeDiff, reduceCtorEq, Int.reduceToNat, Int.reduceLT, Int.reduceLE, Int.reduceEq, Int.reduceNeg, Int.reduceBEq, Int.reduceBNe, String.reduceEq, forall_const, tyS, slIndexByte_p, indexByte_p, indexRune_p, containsRune_p, classOf_p, isWordByte_p, letter_p, digit_p, wordAt_p, rword_p, isName_p, risName_p, hdig]
  refine (rsum_h s h2 hlen hdig).mono ?_
  rintro e h3 ⟨rfl, rfl⟩
  simp only [argE_nil, argE_cons, ↓vmD, vmV, vmStd, Nat.reduceMul, ↓reduceIte, Nat.reduceAdd, Nat.reduceSub, Nat.reduceEqDiff, Nat.reduceLT, Nat.reduceLeDiff, reduceCtorEq, Int.reduceToNat, Int.reduceLT, Int.reduceLE, Int.reduceEq, Int.reduceNeg, Int.reduceBEq, Int.reduceBNe, String.reduceEq, forall_const, tyS, slIndexByte_p, indexByte_p, indexRune_p, containsRune_p, classOf_p, isWordByte_p, letter_p, digit_p, wordAt_p, rword_p, isName_p, risName_p]
  have := sumF_lb _ hdig
  rw [Int.tmod_eq_emod_of_nonneg (by omega)]
  rfl
theorem rcheck_h (s : ByteArray) (h : Heap) : CallsH Tryd.prog 37 #[.string s] h fun r h' => r = .returned (.int .i64 (chkF s)) ∧ h' = h := by
  refine callsH_of_den ⟨Tryd.prog, 37, Tryd.f37, 19, [0, 2], _⟩ (args := [_]) Tryd.func37 rfl Tryd.ntmps37 (by simp) ?_
  simp only [argE_nil, argE_cons, ↓vmD, vmV, vmStd, Nat.reduceMul, ↓reduceIte, Nat.reduceAdd, Nat.reduceSub, Nat.reduceEqDiff, Nat.reduceLT, Nat.reduceLeDiff, reduceCtorEq, Int.reduceToNat, Int.reduceLT, Int.reduceLE, Int.reduceEq, Int.reduceNeg, Int.reduceBEq, Int.reduceBNe, String.reduceEq, forall_const, tyS, slIndexByte_p, indexByte_p, indexRune_p, containsRune_p, classOf_p, isWordByte_p, letter_p, digit_p, wordAt_p, rword_p, isName_p, risName_p]
  split
  · rw [chkF, if_pos (by omega)]
  split
  · rw [chkF, if_neg (by omega), if_pos (by omega)]
  refine (rdigits_h s h (by omega)).mono ?_
  rintro e h2 ⟨rfl, rfl⟩
  simp only [argE_nil, argE_cons, ↓vmD, vmV, vmStd, Nat.reduceMul, ↓reduceIte, Nat.reduceAdd, Nat.reduceSub, Nat.reduceEqDiff, Nat.reduceLT, Nat.reduceLeDiff, reduceCtorEq, Int.reduceToNat, Int.reduceLT, Int.reduceLE, Int.reduceEq, Int.reduceNeg, Int.reduceBEq, Int.reduceBNe, String.reduceEq, forall_const, tyS, slIndexByte_p, indexByte_p, indexRune_p, containsRune_p, classOf_p, isWordByte_p, letter_p, digit_p, wordAt_p, rword_p, isName_p, risName_p]
  split
  · rename_i hd
    rw [chkF, if_neg (by omega), if_neg (by omega), if_pos hd]
  rename_i hd
  simp only [Bool.not_eq_false] at hd
  refine (rluhn_h s h2 (by omega) (by omega) hd).mono ?_
  rintro e h3 ⟨rfl, rfl⟩
  simp only [argE_nil, argE_cons, ↓vmD, vmV, vmStd, Nat.reduceMul, ↓reduceIte, Nat.reduceAdd, Nat.reduceSub, Nat.reduceEqDiff, Nat.reduceLT, Nat.reduceLeDiff, reduceCtorEq, Int.reduceToNat, Int.reduceLT, Int.reduceLE, Int.reduceEq, Int.reduceNeg, Int.reduceBEq, Int.reduceBNe, String.reduceEq, forall_const, tyS, slIndexByte_p, indexByte_p, indexRune_p, containsRune_p, classOf_p, isWordByte_p, letter_p, digit_p, wordAt_p, rword_p, isName_p, risName_p]
  have e1 : ¬ s.size < 12 := by omega
  have e2 : ¬ 19 < s.size := by omega
  by_cases h10 : sumF s.toList % 10 = 0 <;> simp [chkF, e1, e2, hd, h10]
end Go.Proofs.YtejcnpllodgmlaaDoor
