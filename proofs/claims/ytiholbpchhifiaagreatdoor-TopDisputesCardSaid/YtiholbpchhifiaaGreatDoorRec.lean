/-
Card numbers, money, clearing records: Check.
Conditions: none.
-/
import Derived.Test.YtiholbpchhifiaaGreatDoorNam
import Derived.Laws.RangeAny
namespace Go.Proofs.YtiholbpchhifiaaGreatDoor
open Go.Vm
set_option linter.unusedSimpArgs false
set_option linter.unusedVariables false
set_option maxHeartbeats 1000000
set_option maxRecDepth 20000
theorem pbRec : type_of% (And.intro @slIndexByte_p (And.intro @indexByte_p (And.intro @indexRune_p (And.intro @containsRune_p (And.intro @classOf_p (And.intro @isWordByte_p (And.intro @wordAt_p (@isName_p)))))))) := And.intro @slIndexByte_p (And.intro @indexByte_p (And.intro @indexRune_p (And.intro @containsRune_p (And.intro @classOf_p (And.intro @isWordByte_p (And.intro @wordAt_p (@isName_p)))))))

def digF : List UInt8 → Bool
  | [] => true
  | c :: l => (decide (48 ≤ c.toNat) && decide (c.toNat ≤ 57)) && digF l
def sumF : List UInt8 → Int
  | [] => 0
  | c :: l => (if (l.length + 1) % 2 = 0 then (if 9 < 2 * ((c.toNat : Int) - 48) then 2 * ((c.toNat : Int) - 48) - 9 else 2 * ((c.toNat : Int) - 48)) else (c.toNat : Int) - 48) + sumF l

set_option maxRecDepth 20000 in
theorem areDigits_h (s : ByteArray) (h : Heap) : CallsH Tryz.prog 84 #[.string s] h fun r h' => r = .returned (.bool (digF s.toList)) ∧ Grew h h' := by
  refine callsH_of_den ⟨Tryz.prog, 84, Tryz.f84, 16, [0, 2, 4, 6, 7], _⟩ (args := [_]) Tryz.func84 rfl Tryz.ntmps84 (by simp) ?_
  simp only [argE_nil, argE_cons, ↓vmD, vmV, vmStd, Nat.reduceMul, ↓reduceIte, Nat.reduceAdd, Nat.reduceSub, Nat.reduceEqDiff, Nat.reduceLT, Nat.reduceLeDiff, reduceCtorEq, Int.reduceToNat, Int.reduceLT, Int.reduceLE, Int.reduceEq, Int.reduceNeg, Int.reduceBEq, Int.reduceBNe, String.reduceEq, forall_const, tyS, pbRec]
  refine rw_range_string Tryz.underlying9 ?_
  simp only [argE_nil, argE_cons, ↓vmD, vmV, vmStd, Nat.reduceMul, ↓reduceIte, Nat.reduceAdd, Nat.reduceSub, Nat.reduceEqDiff, Nat.reduceLT, Nat.reduceLeDiff, reduceCtorEq, Int.reduceToNat, Int.reduceLT, Int.reduceLE, Int.reduceEq, Int.reduceNeg, Int.reduceBEq, Int.reduceBNe, String.reduceEq, forall_const, tyS, pbRec]
  have hG := Grew.push h (.stringIter s 0)
  obtain ⟨pos, hg, hd⟩ : ∃ pos, (h.push (.stringIter s 0))[h.size]? = some (.stringIter s pos) ∧ digF s.toList = digF (s.toList.drop pos) := ⟨0, by simp, rfl⟩
  generalize h.push (.stringIter s 0) = h1 at hg hG ⊢
  generalize hl : s.toList.drop pos = l at hd
  induction l generalizing pos h1 with
  | nil =>
    refine LoopAt.intro ?_
    simp only [argE_nil, argE_cons, ↓vmD, vmV, vmStd, Nat.reduceMul, ↓reduceIte, Nat.reduceAdd, Nat.reduceSub, Nat.reduceEqDiff, Nat.reduceLT, Nat.reduceLeDiff, reduceCtorEq, Int.reduceToNat, Int.reduceLT, Int.reduceLE, Int.reduceEq, Int.reduceNeg, Int.reduceBEq, Int.reduceBNe, String.reduceEq, forall_const, tyS, pbRec]
    refine rw_next_string hg ?_
    rw [if_neg (byte_end hl)]
    simp only [argE_nil, argE_cons, ↓vmD, vmV, vmStd, Nat.reduceMul, ↓reduceIte, Nat.reduceAdd, Nat.reduceSub, Nat.reduceEqDiff, Nat.reduceLT, Nat.reduceLeDiff, reduceCtorEq, Int.reduceToNat, Int.reduceLT, Int.reduceLE, Int.reduceEq, Int.reduceNeg, Int.reduceBEq, Int.reduceBNe, String.reduceEq, forall_const, tyS, pbRec]
    rw [hd]
    exact ⟨rfl, hG⟩
  | cons c l ih =>
    obtain ⟨hp, hc, hl', _⟩ := byte_at hl
    refine LoopAt.intro ?_
    simp only [argE_nil, argE_cons, ↓vmD, vmV, vmStd, Nat.reduceMul, ↓reduceIte, Nat.reduceAdd, Nat.reduceSub, Nat.reduceEqDiff, Nat.reduceLT, Nat.reduceLeDiff, reduceCtorEq, Int.reduceToNat, Int.reduceLT, Int.reduceLE, Int.reduceEq, Int.reduceNeg, Int.reduceBEq, Int.reduceBNe, String.reduceEq, forall_const, tyS, pbRec]
    refine rw_next_string hg ?_
    rw [if_pos hp]
    simp only [argE_nil, argE_cons, ↓vmD, vmV, vmStd, Nat.reduceMul, ↓reduceIte, Nat.reduceAdd, Nat.reduceSub, Nat.reduceEqDiff, Nat.reduceLT, Nat.reduceLeDiff, reduceCtorEq, Int.reduceToNat, Int.reduceLT, Int.reduceLE, Int.reduceEq, Int.reduceNeg, Int.reduceBEq, Int.reduceBNe, String.reduceEq, forall_const, tyS, pbRec]
    by_cases ha : c.toNat < 128
    · have hdc := decode_ascii s pos hp (by rw [hc]; exact ha)
      rw [hc] at hdc
      rw [hdc]
      split
      · rename_i hb
        refine ⟨?_, hG.set (Nat.le_refl _) _⟩
        rw [hd, digF]
        have : (decide (48 ≤ c.toNat) && decide (c.toNat ≤ 57)) = false := by simp; omega
        rw [this]; rfl
      · rename_i hb
        refine LoopAt.weak (ih (pos + 1) _ ?_ (hG.set (Nat.le_refl _) _) hl' ?_) ⟨rfl, rfl, rfl, trivial⟩
        · simp [lt_of_get hg]
        · rw [hd, digF]
          have : (decide (48 ≤ c.toNat) && decide (c.toNat ≤ 57)) = true := by simp; omega
          rw [this]; rfl
    · have hdc := decode_high s pos hp (by rw [hc]; omega)
      rw [if_pos (by omega)]
      refine ⟨?_, hG.set (Nat.le_refl _) _⟩
      rw [hd, digF]
      have : (decide (48 ≤ c.toNat) && decide (c.toNat ≤ 57)) = false := by simp; omega
      rw [this]; rfl
theorem sumF_lb : ∀ (l : List UInt8), digF l = true → 0 ≤ sumF l ∧ sumF l ≤ 9 * l.length
  | [], _ => by simp [sumF]
  | c :: l, h => by
    simp only [digF, Bool.and_eq_true, decide_eq_true_eq] at h
    have := sumF_lb l h.2
    simp only [sumF, List.length_cons]
    split <;> (try split) <;> omega
theorem digF_drop : ∀ (n : Nat) (l : List UInt8), digF l = true → digF (l.drop n) = true
  | 0, _, h => h
  | n + 1, [], h => rfl
  | n + 1, c :: l, h => by
    simp only [digF, Bool.and_eq_true] at h
    exact digF_drop n l h.2
theorem sum_h (s : ByteArray) (h : Heap) (hlen : s.size ≤ 200000000000000) (hdig : digF s.toList = true) : CallsH Tryz.prog 92 #[.string s] h fun r h' => r = .returned (.int .i64 (sumF s.toList)) ∧ Grew h h' := by
  refine callsH_of_den ⟨Tryz.prog, 92, Tryz.f92, 32, [0, 2, 3, 4, 5, 6, 8, 9], _⟩ (args := [_]) Tryz.func92 rfl Tryz.ntmps92 (by simp) ?_
  simp only [argE_nil, argE_cons, ↓vmD, vmV, vmStd, Nat.reduceMul, ↓reduceIte, Nat.reduceAdd, Nat.reduceSub, Nat.reduceEqDiff, Nat.reduceLT, Nat.reduceLeDiff, reduceCtorEq, Int.reduceToNat, Int.reduceLT, Int.reduceLE, Int.reduceEq, Int.reduceNeg, Int.reduceBEq, Int.reduceBNe, String.reduceEq, forall_const, tyS, pbRec]
  refine rw_range_string Tryz.underlying9 ?_
  simp only [argE_nil, argE_cons, ↓vmD, vmV, vmStd, Nat.reduceMul, ↓reduceIte, Nat.reduceAdd, Nat.reduceSub, Nat.reduceEqDiff, Nat.reduceLT, Nat.reduceLeDiff, reduceCtorEq, Int.reduceToNat, Int.reduceLT, Int.reduceLE, Int.reduceEq, Int.reduceNeg, Int.reduceBEq, Int.reduceBNe, String.reduceEq, forall_const, tyS, pbRec]
  have hG := Grew.push h (.stringIter s 0)
  have hsz := size_list s
  have hsum := sumF_lb _ hdig
  obtain ⟨pos, tot, ht, hg, hd, h0⟩ : ∃ (pos : Nat) (tot : Int), tot = 0 ∧ (h.push (.stringIter s 0))[h.size]? = some (.stringIter s pos) ∧ sumF s.toList = tot + sumF (s.toList.drop pos) ∧ 0 ≤ tot := ⟨0, 0, rfl, by simp, by simp, by simp⟩
  rw [show (3, some (Value.int .i64 0)) = (3, some (Value.int .i64 tot)) by rw [ht]]
  clear ht
  generalize h.push (.stringIter s 0) = h1 at hg hG ⊢
  have hdl := digF_drop pos _ hdig
  generalize hl : s.toList.drop pos = l at hd hdl
  induction l generalizing pos h1 tot with
  | nil =>
    refine LoopAt.intro ?_
    simp only [argE_nil, argE_cons, ↓vmD, vmV, vmStd, Nat.reduceMul, ↓reduceIte, Nat.reduceAdd, Nat.reduceSub, Nat.reduceEqDiff, Nat.reduceLT, Nat.reduceLeDiff, reduceCtorEq, Int.reduceToNat, Int.reduceLT, Int.reduceLE, Int.reduceEq, Int.reduceNeg, Int.reduceBEq, Int.reduceBNe, String.reduceEq, forall_const, tyS, pbRec]
    refine rw_next_string hg ?_
    rw [if_neg (byte_end hl)]
    simp only [argE_nil, argE_cons, ↓vmD, vmV, vmStd, Nat.reduceMul, ↓reduceIte, Nat.reduceAdd, Nat.reduceSub, Nat.reduceEqDiff, Nat.reduceLT, Nat.reduceLeDiff, reduceCtorEq, Int.reduceToNat, Int.reduceLT, Int.reduceLE, Int.reduceEq, Int.reduceNeg, Int.reduceBEq, Int.reduceBNe, String.reduceEq, forall_const, tyS, pbRec]
    rw [hd]
    simp only [sumF, Int.add_zero]
    exact ⟨trivial, hG⟩
  | cons c l ih =>
    obtain ⟨hp, hc, hl', hsl, hb⟩ := byte_at hl
    refine LoopAt.intro ?_
    simp only [argE_nil, argE_cons, ↓vmD, vmV, vmStd, Nat.reduceMul, ↓reduceIte, Nat.reduceAdd, Nat.reduceSub, Nat.reduceEqDiff, Nat.reduceLT, Nat.reduceLeDiff, reduceCtorEq, Int.reduceToNat, Int.reduceLT, Int.reduceLE, Int.reduceEq, Int.reduceNeg, Int.reduceBEq, Int.reduceBNe, String.reduceEq, forall_const, tyS, pbRec]
    refine rw_next_string hg ?_
    rw [if_pos hp]
    simp only [argE_nil, argE_cons, ↓vmD, vmV, vmStd, Nat.reduceMul, ↓reduceIte, Nat.reduceAdd, Nat.reduceSub, Nat.reduceEqDiff, Nat.reduceLT, Nat.reduceLeDiff, reduceCtorEq, Int.reduceToNat, Int.reduceLT, Int.reduceLE, Int.reduceEq, Int.reduceNeg, Int.reduceBEq, Int.reduceBNe, String.reduceEq, forall_const, tyS, pbRec]
    simp only [digF, Bool.and_eq_true, decide_eq_true_eq] at hdl
    have hdc := decode_ascii s pos hp (by rw [hc]; omega)
    rw [hc] at hdc
    rw [hdc]
    have hs1 := sumF_lb l hdl.2
    simp only [sumF] at hd
    simp (disch := omega) only [w_i64, w_i32, Int.tmod_eq_emod_of_nonneg, beq_iff_eq]
    split
    · rw [if_pos (by omega)] at hd
      split
      · rename_i h9
        rw [if_pos (by omega)] at hd
        refine LoopAt.weak (ih (pos + 1) _ ?_ _ ?_ (hG.set (Nat.le_refl _) _) hl' ?_ hdl.2) ⟨rfl, rfl, rfl, rfl, trivial⟩
        · omega
        · simp [lt_of_get hg]
        · omega
      · rename_i h9
        rw [if_neg (by omega)] at hd
        refine LoopAt.weak (ih (pos + 1) _ ?_ _ ?_ (hG.set (Nat.le_refl _) _) hl' ?_ hdl.2) ⟨rfl, rfl, rfl, rfl, trivial⟩
        · omega
        · simp [lt_of_get hg]
        · omega
    · rw [if_neg (by omega)] at hd
      refine LoopAt.weak (ih (pos + 1) _ ?_ _ ?_ (hG.set (Nat.le_refl _) _) hl' ?_ hdl.2) ⟨rfl, rfl, rfl, rfl, trivial⟩
      · omega
      · simp [lt_of_get hg]
      · omega
def chkF (s : ByteArray) : Int :=
  if s.size < 12 then 1 else if 19 < s.size then 3 else if digF s.toList = false then 2 else if sumF s.toList % 10 = 0 then 0 else 9
theorem ne_empty {s : ByteArray} (h : 1 ≤ s.size) : (s.toList == []) = false := by
  have := size_list s
  cases hl : s.toList with
  | nil => rw [hl] at this; simp at this; omega
  | cons c l => rfl
theorem luhn_h (s : ByteArray) (h : Heap) (h1 : 1 ≤ s.size) (hlen : s.size ≤ 200000000000000) (hdig : digF s.toList = true) : CallsH Tryz.prog 85 #[.string s] h fun r h' => r = .returned (.bool (decide (sumF s.toList % 10 = 0))) ∧ Grew h h' := by
  refine callsH_of_den ⟨Tryz.prog, 85, Tryz.f85, 15, [0, 2], _⟩ (args := [_]) Tryz.func85 rfl Tryz.ntmps85 (by simp) ?_
  simp only [argE_nil, argE_cons, ↓vmD, vmV, vmStd, Nat.reduceMul, ↓reduceIte, Nat.reduceAdd, Nat.reduceSub, Nat.reduceEqDiff, Nat.reduceLT, Nat.reduceLeDiff, reduceCtorEq, Int.reduceToNat, Int.reduceLT, Int.reduceLE, Int.reduceEq, Int.reduceNeg, Int.reduceBEq, Int.reduceBNe, String.reduceEq, forall_const, tyS, pbRec, ne_empty h1]
  refine (areDigits_h s h).mono ?_
  rintro e h2 ⟨rfl, g2⟩
  simp only [argE_nil, argE_cons, ↓vmD, vmV, vmStd, Nat.reduceMul, ↓reduceIte, Nat.reduceAdd, Nat.reduceSub, Nat.reduceEqDiff, Nat.reduceLT, Nat.reduceLeDiff, reduceCtorEq, Int.reduceToNat, Int.reduceLT, Int.reduceLE, Int.reduceEq, Int.reduceNeg, Int.reduceBEq, Int.reduceBNe, String.reduceEq, forall_const, tyS, pbRec, hdig]
  refine (sum_h s h2 hlen hdig).mono ?_
  rintro e h3 ⟨rfl, g3⟩
  simp only [argE_nil, argE_cons, ↓vmD, vmV, vmStd, Nat.reduceMul, ↓reduceIte, Nat.reduceAdd, Nat.reduceSub, Nat.reduceEqDiff, Nat.reduceLT, Nat.reduceLeDiff, reduceCtorEq, Int.reduceToNat, Int.reduceLT, Int.reduceLE, Int.reduceEq, Int.reduceNeg, Int.reduceBEq, Int.reduceBNe, String.reduceEq, forall_const, tyS, pbRec]
  have := sumF_lb _ hdig
  rw [Int.tmod_eq_emod_of_nonneg (by omega)]
  exact ⟨rfl, g2.trans g3⟩
theorem check_h (s : ByteArray) (h : Heap) : CallsH Tryz.prog 74 #[.string s] h fun r h' => r = .returned (.int .i64 (chkF s)) ∧ Grew h h' := by
  refine callsH_of_den ⟨Tryz.prog, 74, Tryz.f74, 19, [0, 2], _⟩ (args := [_]) Tryz.func74 rfl Tryz.ntmps74 (by simp) ?_
  simp only [argE_nil, argE_cons, ↓vmD, vmV, vmStd, Nat.reduceMul, ↓reduceIte, Nat.reduceAdd, Nat.reduceSub, Nat.reduceEqDiff, Nat.reduceLT, Nat.reduceLeDiff, reduceCtorEq, Int.reduceToNat, Int.reduceLT, Int.reduceLE, Int.reduceEq, Int.reduceNeg, Int.reduceBEq, Int.reduceBNe, String.reduceEq, forall_const, tyS, pbRec]
  split
  · rw [chkF, if_pos (by omega)]; exact ⟨rfl, .refl h⟩
  split
  · rw [chkF, if_neg (by omega), if_pos (by omega)]; exact ⟨rfl, .refl h⟩
  refine (areDigits_h s h).mono ?_
  rintro e h2 ⟨rfl, g2⟩
  simp only [argE_nil, argE_cons, ↓vmD, vmV, vmStd, Nat.reduceMul, ↓reduceIte, Nat.reduceAdd, Nat.reduceSub, Nat.reduceEqDiff, Nat.reduceLT, Nat.reduceLeDiff, reduceCtorEq, Int.reduceToNat, Int.reduceLT, Int.reduceLE, Int.reduceEq, Int.reduceNeg, Int.reduceBEq, Int.reduceBNe, String.reduceEq, forall_const, tyS, pbRec]
  split
  · rename_i hd
    rw [chkF, if_neg (by omega), if_neg (by omega), if_pos hd]; exact ⟨rfl, g2⟩
  rename_i hd
  simp only [Bool.not_eq_false] at hd
  refine (luhn_h s h2 (by omega) (by omega) hd).mono ?_
  rintro e h3 ⟨rfl, g3⟩
  simp only [argE_nil, argE_cons, ↓vmD, vmV, vmStd, Nat.reduceMul, ↓reduceIte, Nat.reduceAdd, Nat.reduceSub, Nat.reduceEqDiff, Nat.reduceLT, Nat.reduceLeDiff, reduceCtorEq, Int.reduceToNat, Int.reduceLT, Int.reduceLE, Int.reduceEq, Int.reduceNeg, Int.reduceBEq, Int.reduceBNe, String.reduceEq, forall_const, tyS, pbRec]
  have e1 : ¬ s.size < 12 := by omega
  have e2 : ¬ 19 < s.size := by omega
  by_cases h10 : sumF s.toList % 10 = 0
  · simp only [chkF, e1, e2, hd, h10, if_false, if_true, Bool.true_eq_false, not_true_eq_false]; exact ⟨trivial, g2.trans g3⟩
  · simp only [chkF, e1, e2, hd, h10, if_false, if_true, Bool.true_eq_false, not_false_eq_true]; exact ⟨trivial, g2.trans g3⟩
set_option linter.unusedSimpArgs false
set_option linter.unusedVariables false
set_option maxHeartbeats 1000000
set_option maxRecDepth 20000

def idC (c : Nat) : Bool := letterB c || digitB c || decide (c = 95) || decide (c = 45)
def idL (l : List UInt8) : Bool := l.all fun c => idC c.toNat
def idF (s : ByteArray) : Bool := decide (1 ≤ s.size) && (decide (s.size ≤ 16) && idL s.toList)
def upL (l : List UInt8) : Bool := l.all fun c => decide (65 ≤ c.toNat) && decide (c.toNat ≤ 90)
def curF (s : ByteArray) : Bool := decide (s.size = 3) && upL s.toList
theorem idL_cons (c : UInt8) (l : List UInt8) : idL (c :: l) = (idC c.toNat && idL l) := rfl
theorem upL_cons (c : UInt8) (l : List UInt8) : upL (c :: l) = ((decide (65 ≤ c.toNat) && decide (c.toNat ≤ 90)) && upL l) := rfl
theorem recId_h (s : ByteArray) (h : Heap) : CallsH Tryz.prog 73 #[.string s] h fun r h' => r = .returned (.bool (idF s)) ∧ h' = h := by
  refine callsH_of_den ⟨Tryz.prog, 73, Tryz.f73, 45, [0, 2, 3, 4, 14, 15], _⟩ (args := [_]) Tryz.func73 rfl Tryz.ntmps73 (by simp) ?_
  simp only [argE_nil, argE_cons, ↓vmD, vmV, vmStd, Nat.reduceMul, ↓reduceIte, Nat.reduceAdd, Nat.reduceSub, Nat.reduceEqDiff, Nat.reduceLT, Nat.reduceLeDiff, reduceCtorEq, Int.reduceToNat, Int.reduceLT, Int.reduceLE, Int.reduceEq, Int.reduceNeg, Int.reduceBEq, Int.reduceBNe, String.reduceEq, forall_const, tyS, pbRec]
  split
  · rename_i h0
    have : ¬ (1 ≤ s.size ∧ s.size ≤ 16) := by omega
    by_cases h1 : 1 ≤ s.size
    · have h2 : ¬ s.size ≤ 16 := by omega
      simp [idF, h2]
    · simp [idF, h1]
  rename_i h0
  have h3 : 1 ≤ s.size := by omega
  have h4 : s.size ≤ 16 := by omega
  obtain ⟨e, he, h1, h2⟩ : ∃ e : Nat, e = 0 ∧ e ≤ s.size ∧ idL s.toList = idL (s.toList.drop e) := ⟨0, rfl, by omega, rfl⟩
  rw [show (15, some (Value.int .i64 0)) = (15, some (Value.int .i64 (e : Int))) by rw [he]; rfl]
  clear he
  generalize hl : s.toList.drop e = l at h2
  induction l generalizing e with
  | nil =>
    have hlt : ((e : Int) < (s.size : Int)) = False := by have := byte_end hl; simp; omega
    have hA : idL s.toList = true := by rw [h2]; rfl
    refine LoopAt.intro ?_
    simp only [argE_nil, argE_cons, ↓vmD, vmV, vmStd, Nat.reduceMul, ↓reduceIte, Nat.reduceAdd, Nat.reduceSub, Nat.reduceEqDiff, Nat.reduceLT, Nat.reduceLeDiff, reduceCtorEq, Int.reduceToNat, Int.reduceLT, Int.reduceLE, Int.reduceEq, Int.reduceNeg, Int.reduceBEq, Int.reduceBNe, String.reduceEq, forall_const, tyS, pbRec, hlt]; simp [idF, hA, h3, h4]
  | cons c l ih =>
    obtain ⟨hp, hc, hl', hsl, hb⟩ := byte_at hl
    have hlt : ((e : Int) < (s.size : Int)) = True := by simp; omega
    have we : IntKind.i64.wrap ((e : Int) + 1) = ((e + 1 : Nat) : Int) := by rw [w_i64 (by omega) (by omega)]; omega
    rw [idL_cons] at h2
    have K : idC c.toNat = true → idL s.toList = idL l := fun hk => by rw [h2, hk, Bool.true_and]
    have F : idC c.toNat = false → Ending.returned (Value.bool false) = Ending.returned (Value.bool (idF s)) := fun hk => by rw [hk, Bool.false_and] at h2; simp [idF, h2]
    refine LoopAt.intro ?_
    simp only [argE_nil, argE_cons, ↓vmD, vmV, vmStd, Nat.reduceMul, ↓reduceIte, Nat.reduceAdd, Nat.reduceSub, Nat.reduceEqDiff, Nat.reduceLT, Nat.reduceLeDiff, reduceCtorEq, Int.reduceToNat, Int.reduceLT, Int.reduceLE, Int.reduceEq, Int.reduceNeg, Int.reduceBEq, Int.reduceBNe, String.reduceEq, forall_const, tyS, pbRec, hlt, hb, we]
    try simp only [i_eq, bne, decide_eq_true_eq, Bool.not_eq_true', decide_eq_false_iff_not, Bool.or_eq_false_iff, Bool.and_eq_false_iff, beq_eq_false_iff_ne, ne_eq]
    repeat' split
    all_goals first
      | exact LoopAt.weak (ih (e + 1) (by omega) hl' (K (by simp only [idC, letterB, digitB, Bool.or_eq_true, Bool.and_eq_true, decide_eq_true_eq]; omega))) (by simp only [subE, get_cons, Nat.reduceEqDiff, ↓reduceIte, reduceCtorEq, Nat.reduceAdd, and_self, and_true])
      | exact F (by simp only [idC, letterB, digitB, Bool.or_eq_false_iff, Bool.and_eq_false_iff, decide_eq_false_iff_not]; omega)
theorem recId_p (s : ByteArray) (h : Heap) (Q : Ending → Heap → Prop) : CallsX Tryz.prog 73 #[.string s] h Q = Q (.returned (.bool (idF s))) (h) := CallsX.exact (by kernel_rfl) (recId_h s h)
theorem recId_q (s : ByteArray) (h : Heap) (nt_ : Nat) (dst_ : Option Nat) (ρ_ : Env) (K_ : Env → Prop) : callQ Tryz.prog nt_ dst_ (.func (.func 73) #[] #[]) [.string s] ρ_ h K_ = putK nt_ dst_ (.bool (idF s)) ρ_ K_ := callQ_exact (by kernel_rfl) (by kernel_rfl) (recId_h s h)
theorem recId_v (s : ByteArray) (A_ : AH) : valA Tryz.prog 73 #[.string s] A_ = some (.bool (idF s)) := pureA_e (by kernel_rfl) (by kernel_rfl) (fun h => recId_h s h)
theorem moneyCur_h (s : ByteArray) (h : Heap) : CallsH Tryz.prog 54 #[.string s] h fun r h' => r = .returned (.bool (curF s)) ∧ h' = h := by
  refine callsH_of_den ⟨Tryz.prog, 54, Tryz.f54, 23, [0, 2, 3, 8, 9], _⟩ (args := [_]) Tryz.func54 rfl Tryz.ntmps54 (by simp) ?_
  by_cases h3 : s.size = 3
  rotate_left
  · have h4 : ((s.size : Int) == 3) = false := by rw [beq_eq_false_iff_ne]; omega
    have h5 : ((s.size : Int) != 3) = true := by rw [bne, h4]; rfl
    have h6 : ((s.size : Int) = 3) = False := by simp; omega
    simp only [argE_nil, argE_cons, ↓vmD, vmV, vmStd, Nat.reduceMul, ↓reduceIte, Nat.reduceAdd, Nat.reduceSub, Nat.reduceEqDiff, Nat.reduceLT, Nat.reduceLeDiff, reduceCtorEq, Int.reduceToNat, Int.reduceLT, Int.reduceLE, Int.reduceEq, Int.reduceNeg, Int.reduceBEq, Int.reduceBNe, String.reduceEq, forall_const, tyS, pbRec, recId_p, h4, h5, h6]
    simp [curF, h3]
  have h4 : ((s.size : Int) == 3) = true := by rw [beq_iff_eq]; omega
  have h5 : ((s.size : Int) != 3) = false := by rw [bne, h4]; rfl
  have h6 : ((s.size : Int) = 3) = True := by simp; omega
  simp only [argE_nil, argE_cons, ↓vmD, vmV, vmStd, Nat.reduceMul, ↓reduceIte, Nat.reduceAdd, Nat.reduceSub, Nat.reduceEqDiff, Nat.reduceLT, Nat.reduceLeDiff, reduceCtorEq, Int.reduceToNat, Int.reduceLT, Int.reduceLE, Int.reduceEq, Int.reduceNeg, Int.reduceBEq, Int.reduceBNe, String.reduceEq, forall_const, tyS, pbRec, recId_p, h4, h5, h6]
  obtain ⟨e, he, h1, h2⟩ : ∃ e : Nat, e = 0 ∧ e ≤ s.size ∧ upL s.toList = upL (s.toList.drop e) := ⟨0, rfl, by omega, rfl⟩
  rw [show (9, some (Value.int .i64 0)) = (9, some (Value.int .i64 (e : Int))) by rw [he]; rfl]
  clear he
  generalize hl : s.toList.drop e = l at h2
  induction l generalizing e with
  | nil =>
    have hlt : ((e : Int) < (s.size : Int)) = False := by have := byte_end hl; simp; omega
    have hA : upL s.toList = true := by rw [h2]; rfl
    refine LoopAt.intro ?_
    simp only [argE_nil, argE_cons, ↓vmD, vmV, vmStd, Nat.reduceMul, ↓reduceIte, Nat.reduceAdd, Nat.reduceSub, Nat.reduceEqDiff, Nat.reduceLT, Nat.reduceLeDiff, reduceCtorEq, Int.reduceToNat, Int.reduceLT, Int.reduceLE, Int.reduceEq, Int.reduceNeg, Int.reduceBEq, Int.reduceBNe, String.reduceEq, forall_const, tyS, pbRec, recId_p, hlt]; simp [curF, hA, h3]
  | cons c l ih =>
    obtain ⟨hp, hc, hl', hsl, hb⟩ := byte_at hl
    have hlt : ((e : Int) < (s.size : Int)) = True := by simp; omega
    have we : IntKind.i64.wrap ((e : Int) + 1) = ((e + 1 : Nat) : Int) := by rw [w_i64 (by omega) (by omega)]; omega
    rw [upL_cons] at h2
    have K : (decide (65 ≤ c.toNat) && decide (c.toNat ≤ 90)) = true → upL s.toList = upL l := fun hk => by rw [h2, hk, Bool.true_and]
    have F : (decide (65 ≤ c.toNat) && decide (c.toNat ≤ 90)) = false → Ending.returned (Value.bool false) = Ending.returned (Value.bool (curF s)) := fun hk => by rw [hk, Bool.false_and] at h2; simp [curF, h2]
    refine LoopAt.intro ?_
    simp only [argE_nil, argE_cons, ↓vmD, vmV, vmStd, Nat.reduceMul, ↓reduceIte, Nat.reduceAdd, Nat.reduceSub, Nat.reduceEqDiff, Nat.reduceLT, Nat.reduceLeDiff, reduceCtorEq, Int.reduceToNat, Int.reduceLT, Int.reduceLE, Int.reduceEq, Int.reduceNeg, Int.reduceBEq, Int.reduceBNe, String.reduceEq, forall_const, tyS, pbRec, recId_p, hlt, hb, we]
    try simp only [i_eq, bne, decide_eq_true_eq, Bool.not_eq_true', decide_eq_false_iff_not, Bool.or_eq_false_iff, Bool.and_eq_false_iff, beq_eq_false_iff_ne, ne_eq]
    repeat' split
    all_goals first
      | exact LoopAt.weak (ih (e + 1) (by omega) hl' (K (by simp only [idC, letterB, digitB, Bool.or_eq_true, Bool.and_eq_true, decide_eq_true_eq]; omega))) (by simp only [subE, get_cons, Nat.reduceEqDiff, ↓reduceIte, reduceCtorEq, Nat.reduceAdd, and_self, and_true])
      | exact F (by simp only [idC, letterB, digitB, Bool.or_eq_false_iff, Bool.and_eq_false_iff, decide_eq_false_iff_not]; omega)
theorem moneyCur_p (s : ByteArray) (h : Heap) (Q : Ending → Heap → Prop) : CallsX Tryz.prog 54 #[.string s] h Q = Q (.returned (.bool (curF s))) (h) := CallsX.exact (by kernel_rfl) (moneyCur_h s h)
theorem moneyCur_q (s : ByteArray) (h : Heap) (nt_ : Nat) (dst_ : Option Nat) (ρ_ : Env) (K_ : Env → Prop) : callQ Tryz.prog nt_ dst_ (.func (.func 54) #[] #[]) [.string s] ρ_ h K_ = putK nt_ dst_ (.bool (curF s)) ρ_ K_ := callQ_exact (by kernel_rfl) (by kernel_rfl) (moneyCur_h s h)
theorem moneyCur_v (s : ByteArray) (A_ : AH) : valA Tryz.prog 54 #[.string s] A_ = some (.bool (curF s)) := pureA_e (by kernel_rfl) (by kernel_rfl) (fun h => moneyCur_h s h)
theorem three {s : ByteArray} (h : s.size = 3) : ∃ a b c : UInt8, s.toList = [a, b, c] ∧ s.data[0]? = some a ∧ s.data[1]? = some b ∧ s.data[2]? = some c := by
  obtain ⟨a, l, hl⟩ := drop_byte (s := s) (i := 0) (by omega)
  obtain ⟨_, _, h1, h2, h3⟩ := byte_at hl
  obtain ⟨b, l2, hl2⟩ := drop_byte (s := s) (i := 1) (by omega)
  obtain ⟨_, _, g1, g2, g3⟩ := byte_at hl2
  obtain ⟨c, l3, hl3⟩ := drop_byte (s := s) (i := 2) (by omega)
  obtain ⟨_, _, f1, f2, f3⟩ := byte_at hl3
  refine ⟨a, b, c, ?_, h3, g3, f3⟩
  have : l3 = [] := List.eq_nil_of_length_eq_zero (by omega)
  rw [List.drop_zero] at hl
  rw [hl, ← h1, hl2, ← g1, hl3, this]
set_option linter.unusedSimpArgs false
set_option linter.unusedVariables false
set_option maxHeartbeats 1000000
set_option maxRecDepth 20000

def totB (n : Int) : Bool := decide (-4503599627370496 ≤ n) && decide (n ≤ 4503599627370496)
theorem inTotal_h (n : Int) (h : Heap) : CallsH Tryz.prog 55 #[.int .i64 n] h fun r h' => r = .returned (.bool (totB n)) ∧ h' = h := by
  refine callsH_of_den ⟨Tryz.prog, 55, Tryz.f55, 9, [0, 2], _⟩ (args := [_]) Tryz.func55 rfl Tryz.ntmps55 (by simp) ?_
  simp only [argE_nil, argE_cons, ↓vmD, vmV, vmStd, Nat.reduceMul, ↓reduceIte, Nat.reduceAdd, Nat.reduceSub, Nat.reduceEqDiff, Nat.reduceLT, Nat.reduceLeDiff, reduceCtorEq, Int.reduceToNat, Int.reduceLT, Int.reduceLE, Int.reduceEq, Int.reduceNeg, Int.reduceBEq, Int.reduceBNe, String.reduceEq, forall_const, tyS, pbRec, recId_p, moneyCur_p, totB]
theorem inTotal_p (n : Int) (h : Heap) (Q : Ending → Heap → Prop) : CallsX Tryz.prog 55 #[.int .i64 n] h Q = Q (.returned (.bool (totB n))) (h) := CallsX.exact (by kernel_rfl) (inTotal_h n h)
theorem inTotal_q (n : Int) (h : Heap) (nt_ : Nat) (dst_ : Option Nat) (ρ_ : Env) (K_ : Env → Prop) : callQ Tryz.prog nt_ dst_ (.func (.func 55) #[] #[]) [.int .i64 n] ρ_ h K_ = putK nt_ dst_ (.bool (totB n)) ρ_ K_ := callQ_exact (by kernel_rfl) (by kernel_rfl) (inTotal_h n h)
theorem inTotal_v (n : Int) (A_ : AH) : valA Tryz.prog 55 #[.int .i64 n] A_ = some (.bool (totB n)) := pureA_e (by kernel_rfl) (by kernel_rfl) (fun h => inTotal_h n h)
def monF (am : Int) (cu : ByteArray) : Int := if curF cu = false then 11 else if totB am = false then 4 else 0
theorem monCheck_h (am : Int) (cu : ByteArray) (h : Heap) : CallsH Tryz.prog 35 #[.agg #[.int .i64 am, .string cu]] h fun r h' => r = .returned (.int .i64 (monF am cu)) ∧ h' = h.push (.cells #[.int .i64 am, .string cu] 27) := by
  refine callsH_of_den ⟨Tryz.prog, 35, Tryz.f35, 11, [0, 1, 2], _⟩ (args := [_]) Tryz.func35 rfl Tryz.ntmps35 (by simp) ?_
  cases hc : curF cu with
  | false =>
    simp only [argE_nil, argE_cons, ↓vmD, vmV, vmStd, Nat.reduceMul, ↓reduceIte, Nat.reduceAdd, Nat.reduceSub, Nat.reduceEqDiff, Nat.reduceLT, Nat.reduceLeDiff, reduceCtorEq, Int.reduceToNat, Int.reduceLT, Int.reduceLE, Int.reduceEq, Int.reduceNeg, Int.reduceBEq, Int.reduceBNe, String.reduceEq, forall_const, tyS, pbRec, recId_p, moneyCur_p, inTotal_p, hc]
    simp [monF, hc]
  | true =>
    cases ht : totB am with
    | false =>
      simp only [argE_nil, argE_cons, ↓vmD, vmV, vmStd, Nat.reduceMul, ↓reduceIte, Nat.reduceAdd, Nat.reduceSub, Nat.reduceEqDiff, Nat.reduceLT, Nat.reduceLeDiff, reduceCtorEq, Int.reduceToNat, Int.reduceLT, Int.reduceLE, Int.reduceEq, Int.reduceNeg, Int.reduceBEq, Int.reduceBNe, String.reduceEq, forall_const, tyS, pbRec, recId_p, moneyCur_p, inTotal_p, hc, ht]
      simp [monF, hc, ht]
    | true =>
      simp only [argE_nil, argE_cons, ↓vmD, vmV, vmStd, Nat.reduceMul, ↓reduceIte, Nat.reduceAdd, Nat.reduceSub, Nat.reduceEqDiff, Nat.reduceLT, Nat.reduceLeDiff, reduceCtorEq, Int.reduceToNat, Int.reduceLT, Int.reduceLE, Int.reduceEq, Int.reduceNeg, Int.reduceBEq, Int.reduceBNe, String.reduceEq, forall_const, tyS, pbRec, recId_p, moneyCur_p, inTotal_p, hc, ht]
      simp [monF, hc, ht]
theorem monCheck_p (am : Int) (cu : ByteArray) (h : Heap) (Q : Ending → Heap → Prop) : CallsX Tryz.prog 35 #[.agg #[.int .i64 am, .string cu]] h Q = Q (.returned (.int .i64 (monF am cu))) (h.push (.cells #[.int .i64 am, .string cu] 27)) := CallsX.exact (by kernel_rfl) (monCheck_h am cu h)
def namesF (id au aq is me : ByteArray) : Bool := idF id && ((decide (au.toList = []) || idF au) && (nameF aq && (nameF is && idF me)))
def chkRG (kd : Int) (id au aq is me ca : ByteArray) (am : Int) (cu : ByteArray) (da ct : Int) : Int :=
  if kd < 1 ∨ 4 < kd then 4 else if namesF id au aq is me = false then 5 else if chkF ca ≠ 0 then 17 else if monF am cu ≠ 0 then monF am cu else if (am < 1 ∨ 999999999999 < am) ∨ ct < 0 ∨ 9999 < ct then 4 else if da < 0 ∨ 99999 < da then 14 else 0
theorem exKind_h (kd : Int) (id au aq is me ca : ByteArray) (am : Int) (cu : ByteArray) (da ct : Int) (fi : Bool) (h : Heap) : CallsH Tryz.prog 47 #[.agg #[.int .i64 kd, .string id, .string au, .string aq, .string is, .string me, .string ca, .int .i64 am, .string cu, .int .i64 da, .int .i64 ct, .bool fi]] h fun r h' => r = .returned (.int .i64 (if kd < 1 ∨ 4 < kd then 4 else 0)) ∧ h' = h.push (.cells #[.int .i64 kd, .string id, .string au, .string aq, .string is, .string me, .string ca, .int .i64 am, .string cu, .int .i64 da, .int .i64 ct, .bool fi] 112) := by
  refine callsH_of_den ⟨Tryz.prog, 47, Tryz.f47, 11, [0, 1, 2], _⟩ (args := [_]) Tryz.func47 rfl Tryz.ntmps47 (by simp) ?_
  by_cases h1 : kd < 1
  · simp only [argE_nil, argE_cons, ↓vmD, vmV, vmStd, Nat.reduceMul, ↓reduceIte, Nat.reduceAdd, Nat.reduceSub, Nat.reduceEqDiff, Nat.reduceLT, Nat.reduceLeDiff, reduceCtorEq, Int.reduceToNat, Int.reduceLT, Int.reduceLE, Int.reduceEq, Int.reduceNeg, Int.reduceBEq, Int.reduceBNe, String.reduceEq, forall_const, tyS, pbRec, recId_p, moneyCur_p, inTotal_p, monCheck_p, h1]
  · by_cases h2 : 4 < kd
    · simp only [argE_nil, argE_cons, ↓vmD, vmV, vmStd, Nat.reduceMul, ↓reduceIte, Nat.reduceAdd, Nat.reduceSub, Nat.reduceEqDiff, Nat.reduceLT, Nat.reduceLeDiff, reduceCtorEq, Int.reduceToNat, Int.reduceLT, Int.reduceLE, Int.reduceEq, Int.reduceNeg, Int.reduceBEq, Int.reduceBNe, String.reduceEq, forall_const, tyS, pbRec, recId_p, moneyCur_p, inTotal_p, monCheck_p, h1, h2]
    · simp only [argE_nil, argE_cons, ↓vmD, vmV, vmStd, Nat.reduceMul, ↓reduceIte, Nat.reduceAdd, Nat.reduceSub, Nat.reduceEqDiff, Nat.reduceLT, Nat.reduceLeDiff, reduceCtorEq, Int.reduceToNat, Int.reduceLT, Int.reduceLE, Int.reduceEq, Int.reduceNeg, Int.reduceBEq, Int.reduceBNe, String.reduceEq, forall_const, tyS, pbRec, recId_p, moneyCur_p, inTotal_p, monCheck_p, h1, h2]
theorem exKind_p (kd : Int) (id au aq is me ca : ByteArray) (am : Int) (cu : ByteArray) (da ct : Int) (fi : Bool) (h : Heap) (Q : Ending → Heap → Prop) : CallsX Tryz.prog 47 #[.agg #[.int .i64 kd, .string id, .string au, .string aq, .string is, .string me, .string ca, .int .i64 am, .string cu, .int .i64 da, .int .i64 ct, .bool fi]] h Q = Q (.returned (.int .i64 (if kd < 1 ∨ 4 < kd then 4 else 0))) (h.push (.cells #[.int .i64 kd, .string id, .string au, .string aq, .string is, .string me, .string ca, .int .i64 am, .string cu, .int .i64 da, .int .i64 ct, .bool fi] 112)) := CallsX.exact (by kernel_rfl) (exKind_h kd id au aq is me ca am cu da ct fi h)
theorem exNames_h (kd : Int) (id au aq is me ca : ByteArray) (am : Int) (cu : ByteArray) (da ct : Int) (fi : Bool) (h : Heap) : CallsH Tryz.prog 48 #[.agg #[.int .i64 kd, .string id, .string au, .string aq, .string is, .string me, .string ca, .int .i64 am, .string cu, .int .i64 da, .int .i64 ct, .bool fi]] h fun r h' => r = .returned (.int .i64 (if namesF id au aq is me = false then 5 else 0)) ∧ h' = h.push (.cells #[.int .i64 kd, .string id, .string au, .string aq, .string is, .string me, .string ca, .int .i64 am, .string cu, .int .i64 da, .int .i64 ct, .bool fi] 112) := by
  refine callsH_of_den ⟨Tryz.prog, 48, Tryz.f48, 34, [0, 1, 2], _⟩ (args := [_]) Tryz.func48 rfl Tryz.ntmps48 (by simp) ?_
  have q0 : au.toList = [] ∨ ¬ au.toList = [] := Classical.em _
  rcases q0 with q0 | q0 <;> cases h1 : idF id <;> cases h2 : idF au <;> cases h3 : nameF aq <;> cases h4 : nameF is <;> cases h5 : idF me
  all_goals
    simp only [argE_nil, argE_cons, ↓vmD, vmV, vmStd, Nat.reduceMul, ↓reduceIte, Nat.reduceAdd, Nat.reduceSub, Nat.reduceEqDiff, Nat.reduceLT, Nat.reduceLeDiff, reduceCtorEq, Int.reduceToNat, Int.reduceLT, Int.reduceLE, Int.reduceEq, Int.reduceNeg, Int.reduceBEq, Int.reduceBNe, String.reduceEq, forall_const, tyS, pbRec, recId_p, moneyCur_p, inTotal_p, monCheck_p, exKind_p, h1, h2, h3, h4, h5, q0]
    simp [namesF, h1, h2, h3, h4, h5, q0]
theorem exNames_p (kd : Int) (id au aq is me ca : ByteArray) (am : Int) (cu : ByteArray) (da ct : Int) (fi : Bool) (h : Heap) (Q : Ending → Heap → Prop) : CallsX Tryz.prog 48 #[.agg #[.int .i64 kd, .string id, .string au, .string aq, .string is, .string me, .string ca, .int .i64 am, .string cu, .int .i64 da, .int .i64 ct, .bool fi]] h Q = Q (.returned (.int .i64 (if namesF id au aq is me = false then 5 else 0))) (h.push (.cells #[.int .i64 kd, .string id, .string au, .string aq, .string is, .string me, .string ca, .int .i64 am, .string cu, .int .i64 da, .int .i64 ct, .bool fi] 112)) := CallsX.exact (by kernel_rfl) (exNames_h kd id au aq is me ca am cu da ct fi h)
theorem exCard_h (kd : Int) (id au aq is me ca : ByteArray) (am : Int) (cu : ByteArray) (da ct : Int) (fi : Bool) (h : Heap) : CallsH Tryz.prog 49 #[.agg #[.int .i64 kd, .string id, .string au, .string aq, .string is, .string me, .string ca, .int .i64 am, .string cu, .int .i64 da, .int .i64 ct, .bool fi]] h fun r h' => r = .returned (.int .i64 (if chkF ca ≠ 0 then 17 else 0)) ∧ Grew h h' := by
  refine callsH_of_den ⟨Tryz.prog, 49, Tryz.f49, 7, [0, 1, 2], _⟩ (args := [_]) Tryz.func49 rfl Tryz.ntmps49 (by simp) ?_
  simp only [argE_nil, argE_cons, ↓vmD, vmV, vmStd, Nat.reduceMul, ↓reduceIte, Nat.reduceAdd, Nat.reduceSub, Nat.reduceEqDiff, Nat.reduceLT, Nat.reduceLeDiff, reduceCtorEq, Int.reduceToNat, Int.reduceLT, Int.reduceLE, Int.reduceEq, Int.reduceNeg, Int.reduceBEq, Int.reduceBNe, String.reduceEq, forall_const, tyS, pbRec, recId_p, moneyCur_p, inTotal_p, monCheck_p, exKind_p, exNames_p]
  refine (check_h ca _).mono ?_
  rintro _ h2 ⟨rfl, g2⟩
  by_cases h1 : chkF ca = 0
  · simp only [argE_nil, argE_cons, ↓vmD, vmV, vmStd, Nat.reduceMul, ↓reduceIte, Nat.reduceAdd, Nat.reduceSub, Nat.reduceEqDiff, Nat.reduceLT, Nat.reduceLeDiff, reduceCtorEq, Int.reduceToNat, Int.reduceLT, Int.reduceLE, Int.reduceEq, Int.reduceNeg, Int.reduceBEq, Int.reduceBNe, String.reduceEq, forall_const, tyS, pbRec, recId_p, moneyCur_p, inTotal_p, monCheck_p, exKind_p, exNames_p, h1]
    exact (Grew.push _ _).trans g2
  · simp only [argE_nil, argE_cons, ↓vmD, vmV, vmStd, Nat.reduceMul, ↓reduceIte, Nat.reduceAdd, Nat.reduceSub, Nat.reduceEqDiff, Nat.reduceLT, Nat.reduceLeDiff, reduceCtorEq, Int.reduceToNat, Int.reduceLT, Int.reduceLE, Int.reduceEq, Int.reduceNeg, Int.reduceBEq, Int.reduceBNe, String.reduceEq, forall_const, tyS, pbRec, recId_p, moneyCur_p, inTotal_p, monCheck_p, exKind_p, exNames_p, h1]
    exact (Grew.push _ _).trans g2
theorem exCard_v (kd : Int) (id au aq is me ca : ByteArray) (am : Int) (cu : ByteArray) (da ct : Int) (fi : Bool) (A_ : AH) : valA Tryz.prog 49 #[.agg #[.int .i64 kd, .string id, .string au, .string aq, .string is, .string me, .string ca, .int .i64 am, .string cu, .int .i64 da, .int .i64 ct, .bool fi]] A_ = some (.int .i64 (if chkF ca ≠ 0 then 17 else 0)) := pureA_h (by kernel_rfl) (by kernel_rfl) (fun h => exCard_h kd id au aq is me ca am cu da ct fi h)
theorem exAmount_h (kd : Int) (id au aq is me ca : ByteArray) (am : Int) (cu : ByteArray) (da ct : Int) (fi : Bool) (h : Heap) : CallsH Tryz.prog 50 #[.agg #[.int .i64 kd, .string id, .string au, .string aq, .string is, .string me, .string ca, .int .i64 am, .string cu, .int .i64 da, .int .i64 ct, .bool fi]] h fun r h' => r = .returned (.int .i64 (monF am cu)) ∧ h' = (h.push (.cells #[.int .i64 kd, .string id, .string au, .string aq, .string is, .string me, .string ca, .int .i64 am, .string cu, .int .i64 da, .int .i64 ct, .bool fi] 112)).push (.cells #[.int .i64 am, .string cu] 27) := by
  refine callsH_of_den ⟨Tryz.prog, 50, Tryz.f50, 6, [0, 1, 2], _⟩ (args := [_]) Tryz.func50 rfl Tryz.ntmps50 (by simp) ?_
  simp only [argE_nil, argE_cons, ↓vmD, vmV, vmStd, Nat.reduceMul, ↓reduceIte, Nat.reduceAdd, Nat.reduceSub, Nat.reduceEqDiff, Nat.reduceLT, Nat.reduceLeDiff, reduceCtorEq, Int.reduceToNat, Int.reduceLT, Int.reduceLE, Int.reduceEq, Int.reduceNeg, Int.reduceBEq, Int.reduceBNe, String.reduceEq, forall_const, tyS, pbRec, recId_p, moneyCur_p, inTotal_p, monCheck_p, exKind_p, exNames_p]
theorem exAmount_p (kd : Int) (id au aq is me ca : ByteArray) (am : Int) (cu : ByteArray) (da ct : Int) (fi : Bool) (h : Heap) (Q : Ending → Heap → Prop) : CallsX Tryz.prog 50 #[.agg #[.int .i64 kd, .string id, .string au, .string aq, .string is, .string me, .string ca, .int .i64 am, .string cu, .int .i64 da, .int .i64 ct, .bool fi]] h Q = Q (.returned (.int .i64 (monF am cu))) ((h.push (.cells #[.int .i64 kd, .string id, .string au, .string aq, .string is, .string me, .string ca, .int .i64 am, .string cu, .int .i64 da, .int .i64 ct, .bool fi] 112)).push (.cells #[.int .i64 am, .string cu] 27)) := CallsX.exact (by kernel_rfl) (exAmount_h kd id au aq is me ca am cu da ct fi h)
theorem exLimits_h (kd : Int) (id au aq is me ca : ByteArray) (am : Int) (cu : ByteArray) (da ct : Int) (fi : Bool) (h : Heap) : CallsH Tryz.prog 51 #[.agg #[.int .i64 kd, .string id, .string au, .string aq, .string is, .string me, .string ca, .int .i64 am, .string cu, .int .i64 da, .int .i64 ct, .bool fi]] h fun r h' => r = .returned (.int .i64 (if (am < 1 ∨ 999999999999 < am) ∨ ct < 0 ∨ 9999 < ct then 4 else 0)) ∧ h' = h.push (.cells #[.int .i64 kd, .string id, .string au, .string aq, .string is, .string me, .string ca, .int .i64 am, .string cu, .int .i64 da, .int .i64 ct, .bool fi] 112) := by
  refine callsH_of_den ⟨Tryz.prog, 51, Tryz.f51, 21, [0, 1, 2], _⟩ (args := [_]) Tryz.func51 rfl Tryz.ntmps51 (by simp) ?_
  by_cases h1 : am < 1
  · simp only [argE_nil, argE_cons, ↓vmD, vmV, vmStd, Nat.reduceMul, ↓reduceIte, Nat.reduceAdd, Nat.reduceSub, Nat.reduceEqDiff, Nat.reduceLT, Nat.reduceLeDiff, reduceCtorEq, Int.reduceToNat, Int.reduceLT, Int.reduceLE, Int.reduceEq, Int.reduceNeg, Int.reduceBEq, Int.reduceBNe, String.reduceEq, forall_const, tyS, pbRec, recId_p, moneyCur_p, inTotal_p, monCheck_p, exKind_p, exNames_p, exAmount_p, h1]
  by_cases h2 : 999999999999 < am
  · simp only [argE_nil, argE_cons, ↓vmD, vmV, vmStd, Nat.reduceMul, ↓reduceIte, Nat.reduceAdd, Nat.reduceSub, Nat.reduceEqDiff, Nat.reduceLT, Nat.reduceLeDiff, reduceCtorEq, Int.reduceToNat, Int.reduceLT, Int.reduceLE, Int.reduceEq, Int.reduceNeg, Int.reduceBEq, Int.reduceBNe, String.reduceEq, forall_const, tyS, pbRec, recId_p, moneyCur_p, inTotal_p, monCheck_p, exKind_p, exNames_p, exAmount_p, h1, h2]
  by_cases h3 : ct < 0
  · simp only [argE_nil, argE_cons, ↓vmD, vmV, vmStd, Nat.reduceMul, ↓reduceIte, Nat.reduceAdd, Nat.reduceSub, Nat.reduceEqDiff, Nat.reduceLT, Nat.reduceLeDiff, reduceCtorEq, Int.reduceToNat, Int.reduceLT, Int.reduceLE, Int.reduceEq, Int.reduceNeg, Int.reduceBEq, Int.reduceBNe, String.reduceEq, forall_const, tyS, pbRec, recId_p, moneyCur_p, inTotal_p, monCheck_p, exKind_p, exNames_p, exAmount_p, h1, h2, h3]
  by_cases h4 : 9999 < ct
  · simp only [argE_nil, argE_cons, ↓vmD, vmV, vmStd, Nat.reduceMul, ↓reduceIte, Nat.reduceAdd, Nat.reduceSub, Nat.reduceEqDiff, Nat.reduceLT, Nat.reduceLeDiff, reduceCtorEq, Int.reduceToNat, Int.reduceLT, Int.reduceLE, Int.reduceEq, Int.reduceNeg, Int.reduceBEq, Int.reduceBNe, String.reduceEq, forall_const, tyS, pbRec, recId_p, moneyCur_p, inTotal_p, monCheck_p, exKind_p, exNames_p, exAmount_p, h1, h2, h3, h4]
  · simp only [argE_nil, argE_cons, ↓vmD, vmV, vmStd, Nat.reduceMul, ↓reduceIte, Nat.reduceAdd, Nat.reduceSub, Nat.reduceEqDiff, Nat.reduceLT, Nat.reduceLeDiff, reduceCtorEq, Int.reduceToNat, Int.reduceLT, Int.reduceLE, Int.reduceEq, Int.reduceNeg, Int.reduceBEq, Int.reduceBNe, String.reduceEq, forall_const, tyS, pbRec, recId_p, moneyCur_p, inTotal_p, monCheck_p, exKind_p, exNames_p, exAmount_p, h1, h2, h3, h4]
theorem exLimits_p (kd : Int) (id au aq is me ca : ByteArray) (am : Int) (cu : ByteArray) (da ct : Int) (fi : Bool) (h : Heap) (Q : Ending → Heap → Prop) : CallsX Tryz.prog 51 #[.agg #[.int .i64 kd, .string id, .string au, .string aq, .string is, .string me, .string ca, .int .i64 am, .string cu, .int .i64 da, .int .i64 ct, .bool fi]] h Q = Q (.returned (.int .i64 (if (am < 1 ∨ 999999999999 < am) ∨ ct < 0 ∨ 9999 < ct then 4 else 0))) (h.push (.cells #[.int .i64 kd, .string id, .string au, .string aq, .string is, .string me, .string ca, .int .i64 am, .string cu, .int .i64 da, .int .i64 ct, .bool fi] 112)) := CallsX.exact (by kernel_rfl) (exLimits_h kd id au aq is me ca am cu da ct fi h)
theorem exDate_h (kd : Int) (id au aq is me ca : ByteArray) (am : Int) (cu : ByteArray) (da ct : Int) (fi : Bool) (h : Heap) : CallsH Tryz.prog 52 #[.agg #[.int .i64 kd, .string id, .string au, .string aq, .string is, .string me, .string ca, .int .i64 am, .string cu, .int .i64 da, .int .i64 ct, .bool fi]] h fun r h' => r = .returned (.int .i64 (if da < 0 ∨ 99999 < da then 14 else 0)) ∧ h' = h.push (.cells #[.int .i64 kd, .string id, .string au, .string aq, .string is, .string me, .string ca, .int .i64 am, .string cu, .int .i64 da, .int .i64 ct, .bool fi] 112) := by
  refine callsH_of_den ⟨Tryz.prog, 52, Tryz.f52, 11, [0, 1, 2], _⟩ (args := [_]) Tryz.func52 rfl Tryz.ntmps52 (by simp) ?_
  by_cases h1 : da < 0
  · simp only [argE_nil, argE_cons, ↓vmD, vmV, vmStd, Nat.reduceMul, ↓reduceIte, Nat.reduceAdd, Nat.reduceSub, Nat.reduceEqDiff, Nat.reduceLT, Nat.reduceLeDiff, reduceCtorEq, Int.reduceToNat, Int.reduceLT, Int.reduceLE, Int.reduceEq, Int.reduceNeg, Int.reduceBEq, Int.reduceBNe, String.reduceEq, forall_const, tyS, pbRec, recId_p, moneyCur_p, inTotal_p, monCheck_p, exKind_p, exNames_p, exAmount_p, exLimits_p, h1]
  · by_cases h2 : 99999 < da
    · simp only [argE_nil, argE_cons, ↓vmD, vmV, vmStd, Nat.reduceMul, ↓reduceIte, Nat.reduceAdd, Nat.reduceSub, Nat.reduceEqDiff, Nat.reduceLT, Nat.reduceLeDiff, reduceCtorEq, Int.reduceToNat, Int.reduceLT, Int.reduceLE, Int.reduceEq, Int.reduceNeg, Int.reduceBEq, Int.reduceBNe, String.reduceEq, forall_const, tyS, pbRec, recId_p, moneyCur_p, inTotal_p, monCheck_p, exKind_p, exNames_p, exAmount_p, exLimits_p, h1, h2]
    · simp only [argE_nil, argE_cons, ↓vmD, vmV, vmStd, Nat.reduceMul, ↓reduceIte, Nat.reduceAdd, Nat.reduceSub, Nat.reduceEqDiff, Nat.reduceLT, Nat.reduceLeDiff, reduceCtorEq, Int.reduceToNat, Int.reduceLT, Int.reduceLE, Int.reduceEq, Int.reduceNeg, Int.reduceBEq, Int.reduceBNe, String.reduceEq, forall_const, tyS, pbRec, recId_p, moneyCur_p, inTotal_p, monCheck_p, exKind_p, exNames_p, exAmount_p, exLimits_p, h1, h2]
theorem exDate_p (kd : Int) (id au aq is me ca : ByteArray) (am : Int) (cu : ByteArray) (da ct : Int) (fi : Bool) (h : Heap) (Q : Ending → Heap → Prop) : CallsX Tryz.prog 52 #[.agg #[.int .i64 kd, .string id, .string au, .string aq, .string is, .string me, .string ca, .int .i64 am, .string cu, .int .i64 da, .int .i64 ct, .bool fi]] h Q = Q (.returned (.int .i64 (if da < 0 ∨ 99999 < da then 14 else 0))) (h.push (.cells #[.int .i64 kd, .string id, .string au, .string aq, .string is, .string me, .string ca, .int .i64 am, .string cu, .int .i64 da, .int .i64 ct, .bool fi] 112)) := CallsX.exact (by kernel_rfl) (exDate_h kd id au aq is me ca am cu da ct fi h)
set_option linter.unusedSimpArgs false
set_option linter.unusedVariables false
set_option maxHeartbeats 1000000
set_option maxRecDepth 20000

theorem sc6 : sliceCells Tryz.prog 113 6 [(0, .func (.func 47) #[] #[]), (1, .func (.func 48) #[] #[]), (2, .func (.func 49) #[] #[]), (3, .func (.func 50) #[] #[]), (4, .func (.func 51) #[] #[]), (5, .func (.func 52) #[] #[])] = some (110, #[.func (.func 47) #[] #[], .func (.func 48) #[] #[], .func (.func 49) #[] #[], .func (.func 50) #[] #[], .func (.func 51) #[] #[], .func (.func 52) #[] #[]]) := by kernel_rfl
theorem shpF : shp Tryz.prog 110 = some (false, 1) := by kernel_rfl
theorem recCheck_h (kd : Int) (id au aq is me ca : ByteArray) (am : Int) (cu : ByteArray) (da ct : Int) (fi : Bool) (h : Heap) : CallsH Tryz.prog 32 #[.agg #[.int .i64 kd, .string id, .string au, .string aq, .string is, .string me, .string ca, .int .i64 am, .string cu, .int .i64 da, .int .i64 ct, .bool fi]] h fun r h' => r = .returned (.int .i64 (chkRG kd id au aq is me ca am cu da ct)) ∧ Grew h h' := by
  refine callsH_of_den ⟨Tryz.prog, 32, Tryz.f32, 21, [0, 1, 2, 3, 5, 6, 8, 9, 10], _⟩ (args := [_]) Tryz.func32 rfl Tryz.ntmps32 (by simp) ?_
  have W0 : IntKind.i64.wrap (0 + 1) = 1 := by decide
  have W1 : IntKind.i64.wrap (1 + 1) = 2 := by decide
  have W2 : IntKind.i64.wrap (2 + 1) = 3 := by decide
  have W3 : IntKind.i64.wrap (3 + 1) = 4 := by decide
  have W4 : IntKind.i64.wrap (4 + 1) = 5 := by decide
  have W5 : IntKind.i64.wrap (5 + 1) = 6 := by decide
  simp only [argE_nil, argE_cons, ↓vmD, vmV, vmStd, Nat.reduceMul, ↓reduceIte, Nat.reduceAdd, Nat.reduceSub, Nat.reduceEqDiff, Nat.reduceLT, Nat.reduceLeDiff, reduceCtorEq, Int.reduceToNat, Int.reduceLT, Int.reduceLE, Int.reduceEq, Int.reduceNeg, Int.reduceBEq, Int.reduceBNe, String.reduceEq, forall_const, tyS, pbRec, recId_p, moneyCur_p, inTotal_p, monCheck_p, exKind_p, exNames_p, exAmount_p, exLimits_p, exDate_p, sc6]
  have gg : Grew h ((h.push (.cells #[.int .i64 kd, .string id, .string au, .string aq, .string is, .string me, .string ca, .int .i64 am, .string cu, .int .i64 da, .int .i64 ct, .bool fi] 29)).push (.cells #[.func (.func 47) #[] #[], .func (.func 48) #[] #[], .func (.func 49) #[] #[], .func (.func 50) #[] #[], .func (.func 51) #[] #[], .func (.func 52) #[] #[]] 110)) := (Grew.push _ _).pushed _
  refine LoopAt.intro ?_
  by_cases k1 : kd < 1 ∨ 4 < kd
  · have e : chkRG kd id au aq is me ca am cu da ct = 4 := by simp only [chkRG, k1, if_true]
    simp only [argE_nil, argE_cons, ↓vmD, vmV, vmStd, Nat.reduceMul, ↓reduceIte, Nat.reduceAdd, Nat.reduceSub, Nat.reduceEqDiff, Nat.reduceLT, Nat.reduceLeDiff, reduceCtorEq, Int.reduceToNat, Int.reduceLT, Int.reduceLE, Int.reduceEq, Int.reduceNeg, Int.reduceBEq, Int.reduceBNe, String.reduceEq, forall_const, tyS, pbRec, recId_p, moneyCur_p, inTotal_p, monCheck_p, exKind_p, exNames_p, exAmount_p, exLimits_p, exDate_p, k1, shpF]
    exact ⟨by rw [e], (by repeat' first | exact gg | exact .refl _ | apply Grew.pushed)⟩
  simp only [argE_nil, argE_cons, ↓vmD, vmV, vmStd, Nat.reduceMul, ↓reduceIte, Nat.reduceAdd, Nat.reduceSub, Nat.reduceEqDiff, Nat.reduceLT, Nat.reduceLeDiff, reduceCtorEq, Int.reduceToNat, Int.reduceLT, Int.reduceLE, Int.reduceEq, Int.reduceNeg, Int.reduceBEq, Int.reduceBNe, String.reduceEq, forall_const, tyS, pbRec, recId_p, moneyCur_p, inTotal_p, monCheck_p, exKind_p, exNames_p, exAmount_p, exLimits_p, exDate_p, k1, W0, shpF]
  refine LoopAt.intro ?_
  cases k2 : namesF id au aq is me with
  | false =>
    have e : chkRG kd id au aq is me ca am cu da ct = 5 := by simp only [chkRG, k1, k2, if_true, if_false]
    simp only [argE_nil, argE_cons, ↓vmD, vmV, vmStd, Nat.reduceMul, ↓reduceIte, Nat.reduceAdd, Nat.reduceSub, Nat.reduceEqDiff, Nat.reduceLT, Nat.reduceLeDiff, reduceCtorEq, Int.reduceToNat, Int.reduceLT, Int.reduceLE, Int.reduceEq, Int.reduceNeg, Int.reduceBEq, Int.reduceBNe, String.reduceEq, forall_const, tyS, pbRec, recId_p, moneyCur_p, inTotal_p, monCheck_p, exKind_p, exNames_p, exAmount_p, exLimits_p, exDate_p, k2, shpF]
    exact ⟨by rw [e], (by repeat' first | exact gg | exact .refl _ | apply Grew.pushed)⟩
  | true =>
  simp only [argE_nil, argE_cons, ↓vmD, vmV, vmStd, Nat.reduceMul, ↓reduceIte, Nat.reduceAdd, Nat.reduceSub, Nat.reduceEqDiff, Nat.reduceLT, Nat.reduceLeDiff, reduceCtorEq, Int.reduceToNat, Int.reduceLT, Int.reduceLE, Int.reduceEq, Int.reduceNeg, Int.reduceBEq, Int.reduceBNe, String.reduceEq, forall_const, tyS, pbRec, recId_p, moneyCur_p, inTotal_p, monCheck_p, exKind_p, exNames_p, exAmount_p, exLimits_p, exDate_p, k2, W1, shpF]
  refine LoopAt.intro ?_
  simp only [argE_nil, argE_cons, ↓vmD, vmV, vmStd, Nat.reduceMul, ↓reduceIte, Nat.reduceAdd, Nat.reduceSub, Nat.reduceEqDiff, Nat.reduceLT, Nat.reduceLeDiff, reduceCtorEq, Int.reduceToNat, Int.reduceLT, Int.reduceLE, Int.reduceEq, Int.reduceNeg, Int.reduceBEq, Int.reduceBNe, String.reduceEq, forall_const, tyS, pbRec, recId_p, moneyCur_p, inTotal_p, monCheck_p, exKind_p, exNames_p, exAmount_p, exLimits_p, exDate_p, shpF]
  refine (exCard_h kd id au aq is me ca am cu da ct fi _).mono ?_
  rintro _ h2 ⟨rfl, g2⟩
  have g3 : Grew h h2 := Grew.trans (by repeat' first | exact gg | exact .refl _ | apply Grew.pushed) g2
  have hb1 : h2[Array.size h]? = some (.cells #[.int .i64 kd, .string id, .string au, .string aq, .string is, .string me, .string ca, .int .i64 am, .string cu, .int .i64 da, .int .i64 ct, .bool fi] 29) := g2.get (by simp only [argE_nil, argE_cons, ↓vmD, vmV, vmStd, Nat.reduceMul, ↓reduceIte, Nat.reduceAdd, Nat.reduceSub, Nat.reduceEqDiff, Nat.reduceLT, Nat.reduceLeDiff, reduceCtorEq, Int.reduceToNat, Int.reduceLT, Int.reduceLE, Int.reduceEq, Int.reduceNeg, Int.reduceBEq, Int.reduceBNe, String.reduceEq, forall_const, tyS, pbRec, recId_p, moneyCur_p, inTotal_p, monCheck_p, exKind_p, exNames_p, exAmount_p, exLimits_p, exDate_p])
  have hb2 : h2[Array.size h + 1]? = some (.cells #[.func (.func 47) #[] #[], .func (.func 48) #[] #[], .func (.func 49) #[] #[], .func (.func 50) #[] #[], .func (.func 51) #[] #[], .func (.func 52) #[] #[]] 110) := g2.get (by simp only [argE_nil, argE_cons, ↓vmD, vmV, vmStd, Nat.reduceMul, ↓reduceIte, Nat.reduceAdd, Nat.reduceSub, Nat.reduceEqDiff, Nat.reduceLT, Nat.reduceLeDiff, reduceCtorEq, Int.reduceToNat, Int.reduceLT, Int.reduceLE, Int.reduceEq, Int.reduceNeg, Int.reduceBEq, Int.reduceBNe, String.reduceEq, forall_const, tyS, pbRec, recId_p, moneyCur_p, inTotal_p, monCheck_p, exKind_p, exNames_p, exAmount_p, exLimits_p, exDate_p])
  have u1 := ups (lt_of_get hb1)
  have u2 := ups (lt_of_get hb2)
  have fF : ∀ (n : Int), n ≠ 0 → (n != 0) = true := fun n hn => by simpa using hn
  by_cases k3 : chkF ca = 0
  rotate_left
  · have e : chkRG kd id au aq is me ca am cu da ct = 17 := by simp only [chkRG, k1, k2, k3, if_true, if_false, ne_eq, not_false_eq_true, Bool.true_eq_false]
    simp only [argE_nil, argE_cons, ↓vmD, vmV, vmStd, Nat.reduceMul, ↓reduceIte, Nat.reduceAdd, Nat.reduceSub, Nat.reduceEqDiff, Nat.reduceLT, Nat.reduceLeDiff, reduceCtorEq, Int.reduceToNat, Int.reduceLT, Int.reduceLE, Int.reduceEq, Int.reduceNeg, Int.reduceBEq, Int.reduceBNe, String.reduceEq, forall_const, tyS, pbRec, recId_p, moneyCur_p, inTotal_p, monCheck_p, exKind_p, exNames_p, exAmount_p, exLimits_p, exDate_p, k3]
    exact ⟨by rw [e], g3⟩
  simp only [argE_nil, argE_cons, ↓vmD, vmV, vmStd, Nat.reduceMul, ↓reduceIte, Nat.reduceAdd, Nat.reduceSub, Nat.reduceEqDiff, Nat.reduceLT, Nat.reduceLeDiff, reduceCtorEq, Int.reduceToNat, Int.reduceLT, Int.reduceLE, Int.reduceEq, Int.reduceNeg, Int.reduceBEq, Int.reduceBNe, String.reduceEq, forall_const, tyS, pbRec, recId_p, moneyCur_p, inTotal_p, monCheck_p, exKind_p, exNames_p, exAmount_p, exLimits_p, exDate_p, k3, W2]
  refine LoopAt.intro ?_
  by_cases k4 : monF am cu = 0
  rotate_left
  · have e : chkRG kd id au aq is me ca am cu da ct = monF am cu := by simp only [chkRG, k1, k2, k3, k4, if_true, if_false, ne_eq, not_false_eq_true, Bool.true_eq_false, not_true_eq_false]
    simp only [argE_nil, argE_cons, ↓vmD, vmV, vmStd, Nat.reduceMul, ↓reduceIte, Nat.reduceAdd, Nat.reduceSub, Nat.reduceEqDiff, Nat.reduceLT, Nat.reduceLeDiff, reduceCtorEq, Int.reduceToNat, Int.reduceLT, Int.reduceLE, Int.reduceEq, Int.reduceNeg, Int.reduceBEq, Int.reduceBNe, String.reduceEq, forall_const, tyS, pbRec, recId_p, moneyCur_p, inTotal_p, monCheck_p, exKind_p, exNames_p, exAmount_p, exLimits_p, exDate_p, shpF, hb1, hb2, fF _ k4]
    exact ⟨by rw [e], (g3.pushed _).pushed _⟩
  simp only [argE_nil, argE_cons, ↓vmD, vmV, vmStd, Nat.reduceMul, ↓reduceIte, Nat.reduceAdd, Nat.reduceSub, Nat.reduceEqDiff, Nat.reduceLT, Nat.reduceLeDiff, reduceCtorEq, Int.reduceToNat, Int.reduceLT, Int.reduceLE, Int.reduceEq, Int.reduceNeg, Int.reduceBEq, Int.reduceBNe, String.reduceEq, forall_const, tyS, pbRec, recId_p, moneyCur_p, inTotal_p, monCheck_p, exKind_p, exNames_p, exAmount_p, exLimits_p, exDate_p, shpF, hb1, hb2, u1, u2, k4, W3]
  refine LoopAt.intro ?_
  by_cases k5 : (am < 1 ∨ 999999999999 < am) ∨ ct < 0 ∨ 9999 < ct
  · have e : chkRG kd id au aq is me ca am cu da ct = 4 := by simp only [chkRG, k1, k2, k3, k4, k5, if_true, if_false, ne_eq, not_false_eq_true, Bool.true_eq_false, not_true_eq_false]
    simp only [argE_nil, argE_cons, ↓vmD, vmV, vmStd, Nat.reduceMul, ↓reduceIte, Nat.reduceAdd, Nat.reduceSub, Nat.reduceEqDiff, Nat.reduceLT, Nat.reduceLeDiff, reduceCtorEq, Int.reduceToNat, Int.reduceLT, Int.reduceLE, Int.reduceEq, Int.reduceNeg, Int.reduceBEq, Int.reduceBNe, String.reduceEq, forall_const, tyS, pbRec, recId_p, moneyCur_p, inTotal_p, monCheck_p, exKind_p, exNames_p, exAmount_p, exLimits_p, exDate_p, shpF, hb1, hb2, u1, u2, k5]
    exact ⟨by rw [e], by repeat' first | exact g3 | apply Grew.pushed⟩
  simp only [argE_nil, argE_cons, ↓vmD, vmV, vmStd, Nat.reduceMul, ↓reduceIte, Nat.reduceAdd, Nat.reduceSub, Nat.reduceEqDiff, Nat.reduceLT, Nat.reduceLeDiff, reduceCtorEq, Int.reduceToNat, Int.reduceLT, Int.reduceLE, Int.reduceEq, Int.reduceNeg, Int.reduceBEq, Int.reduceBNe, String.reduceEq, forall_const, tyS, pbRec, recId_p, moneyCur_p, inTotal_p, monCheck_p, exKind_p, exNames_p, exAmount_p, exLimits_p, exDate_p, shpF, hb1, hb2, u1, u2, k5, W4]
  refine LoopAt.intro ?_
  by_cases k6 : da < 0 ∨ 99999 < da
  · have e : chkRG kd id au aq is me ca am cu da ct = 14 := by simp only [chkRG, k1, k2, k3, k4, k5, k6, if_true, if_false, ne_eq, not_false_eq_true, Bool.true_eq_false, not_true_eq_false]
    simp only [argE_nil, argE_cons, ↓vmD, vmV, vmStd, Nat.reduceMul, ↓reduceIte, Nat.reduceAdd, Nat.reduceSub, Nat.reduceEqDiff, Nat.reduceLT, Nat.reduceLeDiff, reduceCtorEq, Int.reduceToNat, Int.reduceLT, Int.reduceLE, Int.reduceEq, Int.reduceNeg, Int.reduceBEq, Int.reduceBNe, String.reduceEq, forall_const, tyS, pbRec, recId_p, moneyCur_p, inTotal_p, monCheck_p, exKind_p, exNames_p, exAmount_p, exLimits_p, exDate_p, shpF, hb1, hb2, u1, u2, k6]
    exact ⟨by rw [e], by repeat' first | exact g3 | apply Grew.pushed⟩
  have e : chkRG kd id au aq is me ca am cu da ct = 0 := by simp only [chkRG, k1, k2, k3, k4, k5, k6, if_true, if_false, ne_eq, not_false_eq_true, Bool.true_eq_false, not_true_eq_false]
  simp only [argE_nil, argE_cons, ↓vmD, vmV, vmStd, Nat.reduceMul, ↓reduceIte, Nat.reduceAdd, Nat.reduceSub, Nat.reduceEqDiff, Nat.reduceLT, Nat.reduceLeDiff, reduceCtorEq, Int.reduceToNat, Int.reduceLT, Int.reduceLE, Int.reduceEq, Int.reduceNeg, Int.reduceBEq, Int.reduceBNe, String.reduceEq, forall_const, tyS, pbRec, recId_p, moneyCur_p, inTotal_p, monCheck_p, exKind_p, exNames_p, exAmount_p, exLimits_p, exDate_p, shpF, hb1, hb2, u1, u2, k6, W5]
  refine LoopAt.intro ?_
  simp only [argE_nil, argE_cons, ↓vmD, vmV, vmStd, Nat.reduceMul, ↓reduceIte, Nat.reduceAdd, Nat.reduceSub, Nat.reduceEqDiff, Nat.reduceLT, Nat.reduceLeDiff, reduceCtorEq, Int.reduceToNat, Int.reduceLT, Int.reduceLE, Int.reduceEq, Int.reduceNeg, Int.reduceBEq, Int.reduceBNe, String.reduceEq, forall_const, tyS, pbRec, recId_p, moneyCur_p, inTotal_p, monCheck_p, exKind_p, exNames_p, exAmount_p, exLimits_p, exDate_p]
  exact ⟨by rw [e], by repeat' first | exact g3 | apply Grew.pushed⟩
theorem recCheck_v (kd : Int) (id au aq is me ca : ByteArray) (am : Int) (cu : ByteArray) (da ct : Int) (fi : Bool) (A_ : AH) : valA Tryz.prog 32 #[.agg #[.int .i64 kd, .string id, .string au, .string aq, .string is, .string me, .string ca, .int .i64 am, .string cu, .int .i64 da, .int .i64 ct, .bool fi]] A_ = some (.int .i64 (chkRG kd id au aq is me ca am cu da ct)) := pureA_h (by kernel_rfl) (by kernel_rfl) (fun h => recCheck_h kd id au aq is me ca am cu da ct fi h)
end Go.Proofs.YtiholbpchhifiaaGreatDoor
