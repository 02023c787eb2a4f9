/-
The lexer: scanning.
Conditions: none.
-/
import Derived.Test.YtilifbndbdanoaaDoorLexF
namespace Go.Proofs.YtilifbndbdanoaaDoor
open Go.Vm
set_option linter.unusedSimpArgs false
set_option linter.unusedVariables false
set_option maxHeartbeats 1000000
set_option maxRecDepth 20000

def endR (s : ByteArray) : LR := ⟨0, ⟨#[]⟩, 0, s.size, 0, 0⟩
def scanG (s : ByteArray) : Nat → Nat → Int × Nat × List LR
  | 0, _ => (0, 0, [])
  | f + 1, i => if s.size ≤ i then (0, 0, [endR s]) else if (lexR s i).e ≠ 0 then ((lexR s i).e, i, []) else
      ((scanG s f ((lexR s i).nx + skN false (s.toList.drop (lexR s i).nx))).1, (scanG s f ((lexR s i).nx + skN false (s.toList.drop (lexR s i).nx))).2.1,
        if (scanG s f ((lexR s i).nx + skN false (s.toList.drop (lexR s i).nx))).1 = 0 then lexR s i :: (scanG s f ((lexR s i).nx + skN false (s.toList.drop (lexR s i).nx))).2.2 else [])
def scanF (s : ByteArray) : Int × Nat × List LR := if 4000 < s.size then (3, 0, []) else scanG s (s.size + 1) (skN false s.toList)
def cellsL (l : List LR) : List Value := l.flatMap LR.cells
def Scanned (R : Int × Nat × List LR) (h : Heap) (r : Ending) (h' : Heap) : Prop := ∃ v, r = .returned (.tuple #[v, .int .i64 R.1, .int .i64 R.2.1]) ∧ OwnH h' h.size 25 4 v R.2.2.length (cellsL R.2.2) ∧ Grew h h'
theorem sc0 : sliceCells Tryd.prog 22 0 [] = some (25, #[]) := by kernel_rfl
theorem sc1 (a b c d : Value) : sliceCells Tryd.prog 22 1 [(0, .agg #[a, b, c, d])] = some (25, #[a, b, c, d]) := by kernel_rfl
theorem lexR_next (s : ByteArray) (i : Nat) (hi : i < s.size) (h0 : (lexR s i).e = 0) : i < (lexR s i).nx ∧ (lexR s i).nx ≤ s.size := by
  obtain ⟨c, l, hl⟩ := drop_byte hi
  obtain ⟨hp, hc, hl', hsl, hb⟩ := byte_at hl
  have hwl : i + wlen (c :: l) ≤ s.size := by have := wlen_le (c :: l); simp only [List.length_cons] at this; omega
  revert h0
  unfold lexR
  rw [hl]
  simp only
  split
  · rename_i h1
    have : 0 < l.length := by
      simp only [pre2, Bool.or_eq_true] at h1
      rcases h1 with h1 | h1 <;> exact (isPre2 _ _ _ _ h1).2.2
    intro _; simp only; omega
  split
  · rename_i h1
    split
    · intro h; cases h
    · have : 0 < wlen (c :: l) := by simp [wlen, wordB, h1]
      intro _; simp only; omega
  split
  · rename_i h1
    split
    · intro h; rename_i h2; exact absurd h h2
    · have : 0 < wlen (c :: l) := by simp [wlen, wordB, h1]
      intro _; simp only; omega
  split
  · rcases litV_text s i hi with ⟨_, h6⟩ | ⟨_, h6⟩ | ⟨k, h4, _, h6⟩
    · rw [h6]; intro h; cases h
    · rw [h6]; intro h; cases h
    · rw [h6]; intro _; simp only; omega
  split
  · intro _; simp only; omega
  · intro h; cases h
theorem skN_end (s : ByteArray) (i : Nat) (hi : i ≤ s.size) : i + skN false (s.toList.drop i) ≤ s.size := by
  have := skN_le false (s.toList.drop i)
  rw [List.length_drop, size_list] at this
  omega
theorem cellsL_app (a b : List LR) : cellsL (a ++ b) = cellsL a ++ cellsL b := by simp [cellsL]
/-- What the loop of a scan still does. -/
def More (s : ByteArray) (R : Int × Nat × List LR) (acc : List LR) (m i : Nat) : Prop := s.size < i + m ∧ R = ((scanG s m i).1, (scanG s m i).2.1, if (scanG s m i).1 = 0 then acc ++ (scanG s m i).2.2 else [])
theorem More.last {s : ByteArray} {R : Int × Nat × List LR} {acc : List LR} {m i : Nat} (h : More s R acc m i) (hi : i ≤ s.size) (hn : ¬ i < s.size) : R = (0, 0, acc ++ [endR s]) := by
  obtain ⟨h1, rfl⟩ := h
  cases m with
  | zero => omega
  | succ m =>
    have : s.size ≤ i := by omega
    simp [scanG, this]
theorem More.err {s : ByteArray} {R : Int × Nat × List LR} {acc : List LR} {m i : Nat} (h : More s R acc m i) (hi : i < s.size) (he : ¬ (lexR s i).e = 0) : R = ((lexR s i).e, i, []) := by
  obtain ⟨h1, rfl⟩ := h
  cases m with
  | zero => omega
  | succ m =>
    have : ¬ s.size ≤ i := by omega
    simp [scanG, this, he]
theorem More.next {s : ByteArray} {R : Int × Nat × List LR} {acc : List LR} {m i : Nat} (h : More s R acc m i) (hi : i < s.size) (he : (lexR s i).e = 0) : ∃ m', m = m' + 1 ∧ More s R (acc ++ [lexR s i]) m' ((lexR s i).nx + skN false (s.toList.drop (lexR s i).nx)) := by
  obtain ⟨h1, rfl⟩ := h
  cases m with
  | zero => omega
  | succ m =>
    refine ⟨m, rfl, ?_, ?_⟩
    · have := lexR_next s i hi he; omega
    have : ¬ s.size ≤ i := by omega
    simp only [scanG, this, if_false, he, ne_eq, not_true_eq_false]
    split <;> simp
theorem scan_h (s : ByteArray) (hs : s.size ≤ 100000) (h : Heap) : CallsH Tryd.prog 8 #[.string s] h (Scanned (scanF s) h) := by
  refine callsH_of_den ⟨Tryd.prog, 8, Tryd.f8, 44, [0, 2, 3, 4, 5, 6, 7, 8, 9], _⟩ (args := [_]) Tryd.func8 rfl Tryd.ntmps8 (by simp) ?_
  by_cases h4 : (4000 : Int) < (s.size : Int)
  · simp only [argE_nil, argE_cons, ↓vmD, vmV, vmStd, Nat.reduceMul, ↓reduceIte, Nat.reduceAdd, Nat.reduceSub, Nat.reduceEqDiff, Nat.reduceLT, Nat.reduceLeDiff, reduceCtorEq, Int.reduceToNat, Int.reduceLT, Int.reduceLE, Int.reduceEq, Int.reduceNeg, Int.reduceBEq, Int.reduceBNe, String.reduceEq, forall_const, tyS, slIndexByte_p, indexByte_p, indexRune_p, containsRune_p, slHasPrefix_p, hasPrefix_p, classOf_p, isWordByte_p, wordAt_p, skip_p, number_p, literal_p, h4]
    have : 4000 < s.size := by omega
    refine ⟨.slice none 0 0, ?_, ?_, .refl _⟩
    · simp only [scanF, this, if_true]; rfl
    · simp only [scanF, this, if_true]; exact OwnH.nil ..
  have sk0 : ∀ h Q, CallsX Tryd.prog 11 #[.string s, .int .i64 0] h Q = Q (.returned (.int .i64 ((skN false s.toList : Nat) : Int))) h := fun h Q => by
    have e := skip_p s 0 (by omega) hs h Q
    simp only [List.drop_zero, Nat.zero_add] at e
    exact e
  simp only [argE_nil, argE_cons, ↓vmD, vmV, vmStd, Nat.reduceMul, ↓reduceIte, Nat.reduceAdd, Nat.reduceSub, Nat.reduceEqDiff, Nat.reduceLT, Nat.reduceLeDiff, reduceCtorEq, Int.reduceToNat, Int.reduceLT, Int.reduceLE, Int.reduceEq, Int.reduceNeg, Int.reduceBEq, Int.reduceBNe, String.reduceEq, forall_const, tyS, slIndexByte_p, indexByte_p, indexRune_p, containsRune_p, slHasPrefix_p, hasPrefix_p, classOf_p, isWordByte_p, wordAt_p, skip_p, number_p, literal_p, h4, sc0, sk0]
  clear sk0
  have hM : More s (scanF s) [] (s.size + 1) (skN false s.toList) := by
    have : ¬ 4000 < s.size := by omega
    refine ⟨by omega, ?_⟩
    simp only [scanF, this, if_false, Nat.zero_add, List.drop_zero, List.nil_append]
    split
    · rfl
    · rename_i h5
      have hz : ∀ m i, (scanG s m i).1 ≠ 0 → (scanG s m i).2.2 = [] := by
        intro m
        induction m with
        | zero => intro i h; simp [scanG] at h
        | succ m ih =>
          intro i
          simp only [scanG]
          split
          · intro h; simp at h
          · split
            · intro _; rfl
            · intro h; simp only at h; simp only [h, if_false]
      rw [← hz _ _ h5]
  have hiz : skN false s.toList ≤ s.size := by have := skN_end s 0 (by omega); simpa using this
  have own : OwnH (h.push (.cells #[] 25)) h.size 25 4 (.slice (some ⟨h.size, 0, none⟩) 0 0) ([] : List LR).length (cellsL []) :=
    OwnH.of (Nat.le_refl _) (by simp; rfl) (by simp) (by simp [maxLen]) (by simp) (by simp [cellsL]) (by simp [cellsL])
  have g2 : Grew h (h.push (.cells #[] 25)) := .push _ _
  have hlen : ([] : List LR).length ≤ skN false s.toList := by simp
  generalize hm : s.size + 1 = m at hM
  clear hm
  generalize Value.slice (some ⟨h.size, 0, none⟩) 0 0 = v at own ⊢
  generalize skN false s.toList = i at *
  generalize hacc : ([] : List LR) = acc at own hM hlen
  clear hacc
  generalize h.push (.cells #[] 25) = h2 at *
  induction m generalizing v i acc h2 with
  | zero => have := hM.1; omega
  | succ m ih =>
    refine LoopAt.intro ?_
    by_cases hlt : (i : Int) < (s.size : Int)
    · simp only [argE_nil, argE_cons, ↓vmD, vmV, vmStd, Nat.reduceMul, ↓reduceIte, Nat.reduceAdd, Nat.reduceSub, Nat.reduceEqDiff, Nat.reduceLT, Nat.reduceLeDiff, reduceCtorEq, Int.reduceToNat, Int.reduceLT, Int.reduceLE, Int.reduceEq, Int.reduceNeg, Int.reduceBEq, Int.reduceBNe, String.reduceEq, forall_const, tyS, slIndexByte_p, indexByte_p, indexRune_p, containsRune_p, slHasPrefix_p, hasPrefix_p, classOf_p, isWordByte_p, wordAt_p, skip_p, number_p, literal_p, hlt]
      refine (lexemeAt_h s i (by omega) hs h2).mono ?_
      rintro _ h3 ⟨rfl, g3⟩
      by_cases he : (lexR s i).e = 0
      · simp only [argE_nil, argE_cons, ↓vmD, vmV, vmStd, Nat.reduceMul, ↓reduceIte, Nat.reduceAdd, Nat.reduceSub, Nat.reduceEqDiff, Nat.reduceLT, Nat.reduceLeDiff, reduceCtorEq, Int.reduceToNat, Int.reduceLT, Int.reduceLE, Int.reduceEq, Int.reduceNeg, Int.reduceBEq, Int.reduceBNe, String.reduceEq, forall_const, tyS, slIndexByte_p, indexByte_p, indexRune_p, containsRune_p, slHasPrefix_p, hasPrefix_p, classOf_p, isWordByte_p, wordAt_p, skip_p, number_p, literal_p, LR.val, he, sc1]
        obtain ⟨m', hm', hN⟩ := hM.next (by omega) he
        obtain rfl : m' = m := by omega
        have hnx := lexR_next s i (by omega) he
        have g5 := ((g2.trans g3).pushed (.cells (LR.cells (lexR s i)).toArray 25))
        have own3 := ((own.grew g3).grew (.push h3 (.cells (LR.cells (lexR s i)).toArray 25))).grew (.push _ (.cells (LR.cells (lexR s i)).toArray 25))
        refine rw_append (news := LR.cells (lexR s i)) (m := 1) slc22 zro25 rfl (by decide) own3 rfl (news_at _ _ (by simp) _ _ _) (by simp [LR.cells, Value.oneCell']) (by simp [maxLen]; omega) (by omega) (by have := g5.le; simp at this ⊢; omega) ?_
        intro v' h4' o' gB _
        have g4 : Grew h h4' := gB.grew (g5.pushed _) own3.row
        have hnx' := hnx.2
        simp only [argE_nil, argE_cons, ↓vmD, vmV, vmStd, Nat.reduceMul, ↓reduceIte, Nat.reduceAdd, Nat.reduceSub, Nat.reduceEqDiff, Nat.reduceLT, Nat.reduceLeDiff, reduceCtorEq, Int.reduceToNat, Int.reduceLT, Int.reduceLE, Int.reduceEq, Int.reduceNeg, Int.reduceBEq, Int.reduceBNe, String.reduceEq, forall_const, tyS, slIndexByte_p, indexByte_p, indexRune_p, containsRune_p, slHasPrefix_p, hasPrefix_p, classOf_p, isWordByte_p, wordAt_p, skip_p, number_p, literal_p, hnx', hs]
        refine LoopAt.weak (ih v' _ (skN_end s _ hnx') (acc ++ [lexR s i]) hN ?_ h4' g4 ?_) (by simp only [subE, get_cons, Nat.reduceEqDiff, ↓reduceIte, reduceCtorEq, Nat.reduceAdd, and_self, and_true])
        · simp; omega
        · have e1 : (acc ++ [lexR s i]).length = acc.length + 1 := by simp
          have e2 : cellsL (acc ++ [lexR s i]) = cellsL acc ++ (lexR s i).cells := by simp [cellsL]
          rw [e1, e2]
          exact o'
      · simp only [argE_nil, argE_cons, ↓vmD, vmV, vmStd, Nat.reduceMul, ↓reduceIte, Nat.reduceAdd, Nat.reduceSub, Nat.reduceEqDiff, Nat.reduceLT, Nat.reduceLeDiff, reduceCtorEq, Int.reduceToNat, Int.reduceLT, Int.reduceLE, Int.reduceEq, Int.reduceNeg, Int.reduceBEq, Int.reduceBNe, String.reduceEq, forall_const, tyS, slIndexByte_p, indexByte_p, indexRune_p, containsRune_p, slHasPrefix_p, hasPrefix_p, classOf_p, isWordByte_p, wordAt_p, skip_p, number_p, literal_p, LR.val, he]
        have hR := hM.err (by omega) he
        refine ⟨.slice none 0 0, ?_, ?_, ?_⟩
        · rw [hR]
        · rw [hR]; exact OwnH.nil ..
        · exact (g2.trans g3).pushed _
    · simp only [argE_nil, argE_cons, ↓vmD, vmV, vmStd, Nat.reduceMul, ↓reduceIte, Nat.reduceAdd, Nat.reduceSub, Nat.reduceEqDiff, Nat.reduceLT, Nat.reduceLeDiff, reduceCtorEq, Int.reduceToNat, Int.reduceLT, Int.reduceLE, Int.reduceEq, Int.reduceNeg, Int.reduceBEq, Int.reduceBNe, String.reduceEq, forall_const, tyS, slIndexByte_p, indexByte_p, indexRune_p, containsRune_p, slHasPrefix_p, hasPrefix_p, classOf_p, isWordByte_p, wordAt_p, skip_p, number_p, literal_p, hlt, sc1]
      have hR := hM.last hiz (by omega)
      have own3 := own.grew (.push h2 (.cells (LR.cells (endR s)).toArray 25))
      refine rw_append (news := LR.cells (endR s)) (m := 1) slc22 zro25 rfl (by decide) own3 rfl (news_at _ _ (by simp) _ _ _) (by simp [LR.cells, Value.oneCell']) (by simp [maxLen]; omega) (by omega) (by have := g2.le; simp; omega) ?_
      intro v' h4' o' gB _
      have g4 : Grew h h4' := gB.grew (g2.pushed _) own3.row
      simp only [argE_nil, argE_cons, ↓vmD, vmV, vmStd, Nat.reduceMul, ↓reduceIte, Nat.reduceAdd, Nat.reduceSub, Nat.reduceEqDiff, Nat.reduceLT, Nat.reduceLeDiff, reduceCtorEq, Int.reduceToNat, Int.reduceLT, Int.reduceLE, Int.reduceEq, Int.reduceNeg, Int.reduceBEq, Int.reduceBNe, String.reduceEq, forall_const, tyS, slIndexByte_p, indexByte_p, indexRune_p, containsRune_p, slHasPrefix_p, hasPrefix_p, classOf_p, isWordByte_p, wordAt_p, skip_p, number_p, literal_p]
      refine ⟨v', ?_, ?_, g4⟩
      · rw [hR]; rfl
      · have e1 : (acc ++ [endR s]).length = acc.length + 1 := by simp
        have e2 : cellsL (acc ++ [endR s]) = cellsL acc ++ (endR s).cells := by simp [cellsL]
        rw [hR, e1, e2]
        exact o'
end Go.Proofs.YtilifbndbdanoaaDoor
