/-
The reference's Scan.
Conditions: none.
-/
import Derived.Test.YtamiclgnehfhpaaDoorScX
namespace Go.Proofs.YtamiclgnehfhpaaDoor
open Go.Vm
set_option linter.unusedSimpArgs false
set_option linter.unusedVariables false
set_option maxHeartbeats 1000000
set_option maxRecDepth 20000
theorem pbRsn : type_of% (And.intro @slIndexByte_p (And.intro @indexByte_p (And.intro @indexRune_p (And.intro @containsRune_p (And.intro @slHasPrefix_p (And.intro @hasPrefix_p (And.intro @classOf_p (And.intro @isWordByte_p (And.intro @letter_p (And.intro @digit_p (And.intro @wordAt_p (And.intro @rword_p (And.intro @skip_p (And.intro @rskip_p (And.intro @number_p (And.intro @rnumber_p (And.intro @literal_p (And.intro @isName_p (And.intro @risName_p (@rdays_p)))))))))))))))))))) := And.intro @slIndexByte_p (And.intro @indexByte_p (And.intro @indexRune_p (And.intro @containsRune_p (And.intro @slHasPrefix_p (And.intro @hasPrefix_p (And.intro @classOf_p (And.intro @isWordByte_p (And.intro @letter_p (And.intro @digit_p (And.intro @wordAt_p (And.intro @rword_p (And.intro @skip_p (And.intro @rskip_p (And.intro @number_p (And.intro @rnumber_p (And.intro @literal_p (And.intro @isName_p (And.intro @risName_p (@rdays_p)))))))))))))))))))
theorem rscan_h (s : ByteArray) (hs : s.size ≤ 100000) (h : Heap) : CallsH Tryd.prog 45 #[.string s] h (Scanned (scanF s) h) := by
  suffices H : ∀ h0, h0 = h → CallsH Tryd.prog 45 #[.string s] h (Scanned (scanF s) h0) from H h rfl
  intro h0 hh0
  have g2 : Grew h0 h := by rw [hh0]; exact .refl _
  clear hh0
  refine callsH_of_den ⟨Tryd.prog, 45, Tryd.f45, 43, [0, 2, 3, 4, 5, 6, 7, 8, 9], _⟩ (args := [_]) Tryd.func45 rfl Tryd.ntmps45 (by simp) ?_
  by_cases h4 : (4000 : Int) < (s.size : Int)
  · simp only [argE_nil, argE_cons, ↓vmD, vmV, vmStd, Nat.reduceMul, ↓reduceIte, Nat.reduceAdd, Nat.reduceSub, Nat.reduceEqDiff, Nat.reduceLT, Nat.reduceLeDiff, reduceCtorEq, Int.reduceToNat, Int.reduceLT, Int.reduceLE, Int.reduceEq, Int.reduceNeg, Int.reduceBEq, Int.reduceBNe, String.reduceEq, forall_const, tyS, pbRsn, h4]
    have : 4000 < s.size := by omega
    refine ⟨.slice none 0 0, ?_, ?_, g2⟩
    · simp only [scanF, this, if_true]; rfl
    · simp only [scanF, this, if_true]; exact OwnH.nil ..
  have sk0 : ∀ h Q, CallsX Tryd.prog 62 #[.string s, .int .i64 0] h Q = Q (.returned (.int .i64 ((skN false s.toList : Nat) : Int))) h := fun h Q => by
    have e := rskip_p s 0 (by omega) hs h Q
    simp only [List.drop_zero, Nat.zero_add] at e
    exact e
  simp only [argE_nil, argE_cons, ↓vmD, vmV, vmStd, Nat.reduceMul, ↓reduceIte, Nat.reduceAdd, Nat.reduceSub, Nat.reduceEqDiff, Nat.reduceLT, Nat.reduceLeDiff, reduceCtorEq, Int.reduceToNat, Int.reduceLT, Int.reduceLE, Int.reduceEq, Int.reduceNeg, Int.reduceBEq, Int.reduceBNe, String.reduceEq, forall_const, tyS, pbRsn, h4, sk0]
  clear sk0
  have hM : More s (scanF s) [] (s.size + 1) (skN false s.toList) := by
    have : ¬ 4000 < s.size := by omega
    refine ⟨by omega, ?_⟩
    simp only [scanF, this, if_false, Nat.zero_add, List.drop_zero, List.nil_append]
    split
    · rfl
    · rename_i h5
      have hz : ∀ m i, (scanG s m i).1 ≠ 0 → (scanG s m i).2.2 = [] := by
        intro m
        induction m with
        | zero => intro i h; simp [scanG] at h
        | succ m ih =>
          intro i
          simp only [scanG]
          split
          · intro h; simp at h
          · split
            · intro _; rfl
            · intro h; simp only at h; simp only [h, if_false]
      rw [← hz _ _ h5]
  have hiz : skN false s.toList ≤ s.size := by have := skN_end s 0 (by omega); simpa using this
  have hlen : ([] : List LR).length ≤ skN false s.toList := by simp
  generalize hm : s.size + 1 = m at hM
  clear hm
  obtain ⟨v, hv, own⟩ : ∃ v, v = Value.slice none 0 0 ∧ OwnH h h0.size 70 4 v ([] : List LR).length (cellsL []) := ⟨_, rfl, OwnH.nil ..⟩
  rw [show (5, some (Value.slice none 0 0)) = (5, some v) by rw [hv]]
  clear hv
  generalize skN false s.toList = i at *
  generalize hacc : ([] : List LR) = acc at own hM hlen
  clear hacc
  induction m generalizing v i acc h with
  | zero => have := hM.1; omega
  | succ m ih =>
    refine LoopAt.intro ?_
    by_cases hlt : (i : Int) < (s.size : Int)
    · simp only [argE_nil, argE_cons, ↓vmD, vmV, vmStd, Nat.reduceMul, ↓reduceIte, Nat.reduceAdd, Nat.reduceSub, Nat.reduceEqDiff, Nat.reduceLT, Nat.reduceLeDiff, reduceCtorEq, Int.reduceToNat, Int.reduceLT, Int.reduceLE, Int.reduceEq, Int.reduceNeg, Int.reduceBEq, Int.reduceBNe, String.reduceEq, forall_const, tyS, pbRsn, hlt]
      refine (rlexeme_h s i (by omega) hs h).mono ?_
      rintro _ h3 ⟨rfl, g3⟩
      by_cases he : (lexR s i).e = 0
      · simp only [argE_nil, argE_cons, ↓vmD, vmV, vmStd, Nat.reduceMul, ↓reduceIte, Nat.reduceAdd, Nat.reduceSub, Nat.reduceEqDiff, Nat.reduceLT, Nat.reduceLeDiff, reduceCtorEq, Int.reduceToNat, Int.reduceLT, Int.reduceLE, Int.reduceEq, Int.reduceNeg, Int.reduceBEq, Int.reduceBNe, String.reduceEq, forall_const, tyS, pbRsn, LR.val, he, sc1]
        obtain ⟨m', hm', hN⟩ := hM.next (by omega) he
        obtain rfl : m' = m := by omega
        have hnx := lexR_next s i (by omega) he
        have g5 := ((g2.trans g3).pushed (.cells (LR.cells (lexR s i)).toArray 70))
        have own3 := ((own.grew g3).grew (.push h3 (.cells (LR.cells (lexR s i)).toArray 70))).grew (.push _ (.cells (LR.cells (lexR s i)).toArray 70))
        refine rw_append (news := LR.cells (lexR s i)) (m := 1) slc74 zro70 rfl (by decide) own3 rfl (news_at _ _ (by simp) _ _ _) (by simp [LR.cells, Value.oneCell']) (by simp [maxLen]; omega) (by omega) (by have := g5.le; simp at this ⊢; omega) ?_
        intro v' h4' o' gB _
        have g4 : Grew h0 h4' := gB.grew (g5.pushed _) own3.row
        have hnx' := hnx.2
        simp only [argE_nil, argE_cons, ↓vmD, vmV, vmStd, Nat.reduceMul, ↓reduceIte, Nat.reduceAdd, Nat.reduceSub, Nat.reduceEqDiff, Nat.reduceLT, Nat.reduceLeDiff, reduceCtorEq, Int.reduceToNat, Int.reduceLT, Int.reduceLE, Int.reduceEq, Int.reduceNeg, Int.reduceBEq, Int.reduceBNe, String.reduceEq, forall_const, tyS, pbRsn, hnx', hs]
        refine LoopAt.weak (ih h4' g4 v' _ (skN_end s _ hnx') (acc ++ [lexR s i]) ?_ hN ?_) (by simp only [subE, get_cons, Nat.reduceEqDiff, ↓reduceIte, reduceCtorEq, Nat.reduceAdd, and_self, and_true])
        rotate_left
        · simp; omega
        · have e1 : (acc ++ [lexR s i]).length = acc.length + 1 := by simp
          have e2 : cellsL (acc ++ [lexR s i]) = cellsL acc ++ (lexR s i).cells := by simp [cellsL]
          rw [e1, e2]
          exact o'
      · simp only [argE_nil, argE_cons, ↓vmD, vmV, vmStd, Nat.reduceMul, ↓reduceIte, Nat.reduceAdd, Nat.reduceSub, Nat.reduceEqDiff, Nat.reduceLT, Nat.reduceLeDiff, reduceCtorEq, Int.reduceToNat, Int.reduceLT, Int.reduceLE, Int.reduceEq, Int.reduceNeg, Int.reduceBEq, Int.reduceBNe, String.reduceEq, forall_const, tyS, pbRsn, LR.val, he]
        have hR := hM.err (by omega) he
        refine ⟨.slice none 0 0, ?_, ?_, ?_⟩
        · rw [hR]
        · rw [hR]; exact OwnH.nil ..
        · exact (g2.trans g3).pushed _
    · simp only [argE_nil, argE_cons, ↓vmD, vmV, vmStd, Nat.reduceMul, ↓reduceIte, Nat.reduceAdd, Nat.reduceSub, Nat.reduceEqDiff, Nat.reduceLT, Nat.reduceLeDiff, reduceCtorEq, Int.reduceToNat, Int.reduceLT, Int.reduceLE, Int.reduceEq, Int.reduceNeg, Int.reduceBEq, Int.reduceBNe, String.reduceEq, forall_const, tyS, pbRsn, hlt, sc1]
      have hR := hM.last hiz (by omega)
      have own3 := own.grew (.push h (.cells (LR.cells (endR s)).toArray 70))
      refine rw_append (news := LR.cells (endR s)) (m := 1) slc74 zro70 rfl (by decide) own3 rfl (news_at _ _ (by simp) _ _ _) (by simp [LR.cells, Value.oneCell']) (by simp [maxLen]; omega) (by omega) (by have := g2.le; simp; omega) ?_
      intro v' h4' o' gB _
      have g4 : Grew h0 h4' := gB.grew (g2.pushed _) own3.row
      simp only [argE_nil, argE_cons, ↓vmD, vmV, vmStd, Nat.reduceMul, ↓reduceIte, Nat.reduceAdd, Nat.reduceSub, Nat.reduceEqDiff, Nat.reduceLT, Nat.reduceLeDiff, reduceCtorEq, Int.reduceToNat, Int.reduceLT, Int.reduceLE, Int.reduceEq, Int.reduceNeg, Int.reduceBEq, Int.reduceBNe, String.reduceEq, forall_const, tyS, pbRsn]
      refine ⟨v', ?_, ?_, g4⟩
      · rw [hR]; rfl
      · have e1 : (acc ++ [endR s]).length = acc.length + 1 := by simp
        have e2 : cellsL (acc ++ [endR s]) = cellsL acc ++ (endR s).cells := by simp [cellsL]
        rw [hR, e1, e2]
        exact o'
end Go.Proofs.YtamiclgnehfhpaaDoor
