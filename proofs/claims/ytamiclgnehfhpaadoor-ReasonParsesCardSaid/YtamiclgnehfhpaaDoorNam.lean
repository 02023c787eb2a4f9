/-
Names.
Conditions: none.
-/
import Derived.Test.YtamiclgnehfhpaaDoorLexX
namespace Go.Proofs.YtamiclgnehfhpaaDoor
open Go.Vm
set_option linter.unusedSimpArgs false
set_option linter.unusedVariables false
set_option maxHeartbeats 1000000
set_option maxRecDepth 20000
theorem pbNam : type_of% (And.intro @slIndexByte_p (And.intro @indexByte_p (And.intro @indexRune_p (And.intro @containsRune_p (And.intro @slHasPrefix_p (And.intro @hasPrefix_p (And.intro @classOf_p (And.intro @isWordByte_p (And.intro @letter_p (And.intro @digit_p (And.intro @wordAt_p (And.intro @rword_p (And.intro @skip_p (And.intro @rskip_p (And.intro @number_p (And.intro @rnumber_p (@literal_p))))))))))))))))) := And.intro @slIndexByte_p (And.intro @indexByte_p (And.intro @indexRune_p (And.intro @containsRune_p (And.intro @slHasPrefix_p (And.intro @hasPrefix_p (And.intro @classOf_p (And.intro @isWordByte_p (And.intro @letter_p (And.intro @digit_p (And.intro @wordAt_p (And.intro @rword_p (And.intro @skip_p (And.intro @rskip_p (And.intro @number_p (And.intro @rnumber_p (@literal_p))))))))))))))))
def nameF (s : ByteArray) : Bool := decide (0 < s.size) && (decide (s.size ≤ 16) && ((match s.toList with | c :: _ => letterB c.toNat | [] => false) && decide (wlen s.toList = s.size)))
theorem toList_nil {s : ByteArray} (h : s.size = 0) : s.toList = [] := by
  have := size_list s
  rw [h] at this
  exact List.eq_nil_of_length_eq_zero this
theorem cls_letter : ∀ c, c < 256 → (clsF c = 2 ∧ letterB c = true) ∨ (clsF c ≠ 2 ∧ letterB c = false) := by decide +kernel
theorem str_nil (s : ByteArray) : (s.toList == []) = decide (s.size = 0) := by
  rw [Bool.eq_iff_iff]
  simp only [beq_iff_eq, decide_eq_true_eq]
  constructor
  · intro h; rw [← size_list, h]; rfl
  · exact toList_nil
theorem isName_h (s : ByteArray) (h : Heap) : CallsH Tryd.prog 30 #[.string s] h fun r h' => r = .returned (.bool (nameF s)) ∧ h' = h := by
  refine callsH_of_den ⟨Tryd.prog, 30, Tryd.f30, 23, [0, 2], _⟩ (args := [_]) Tryd.func30 rfl Tryd.ntmps30 (by simp) ?_
  by_cases h0 : s.size = 0
  · have e0 : (s.toList = []) = True := by simp [toList_nil h0]
    simp only [argE_nil, argE_cons, ↓vmD, vmV, vmStd, Nat.reduceMul, ↓reduceIte, Nat.reduceAdd, Nat.reduceSub, Nat.reduceEqDiff, Nat.reduceLT, Nat.reduceLeDiff, reduceCtorEq, Int.reduceToNat, Int.reduceLT, Int.reduceLE, Int.reduceEq, Int.reduceNeg, Int.reduceBEq, Int.reduceBNe, String.reduceEq, forall_const, tyS, pbNam, e0, toList_nil h0]
    simp [nameF, h0]
  have e0 : (s.toList = []) = False := by simp; intro h; have := size_list s; rw [h] at this; simp at this; omega
  obtain ⟨c, l, hl⟩ := drop_byte (s := s) (i := 0) (by omega)
  obtain ⟨hp, hc, hl', hsl, hb⟩ := byte_at hl
  have hcl := u8_lt c
  have w32 : IntKind.i32.wrap (c.toNat : Int) = c.toNat := w_i32 (by omega) (by omega)
  rw [List.drop_zero] at hl
  have hw := wlen_le s.toList
  rw [size_list] at hw
  have hx := ext_size s 0 (wlen s.toList) (by omega)
  rw [Nat.zero_add] at hx
  by_cases h16 : (16 : Int) < (s.size : Int)
  · simp only [argE_nil, argE_cons, ↓vmD, vmV, vmStd, Nat.reduceMul, ↓reduceIte, Nat.reduceAdd, Nat.reduceSub, Nat.reduceEqDiff, Nat.reduceLT, Nat.reduceLeDiff, reduceCtorEq, Int.reduceToNat, Int.reduceLT, Int.reduceLE, Int.reduceEq, Int.reduceNeg, Int.reduceBEq, Int.reduceBNe, String.reduceEq, forall_const, tyS, pbNam, e0, h16]
    have : ¬ s.size ≤ 16 := by omega
    simp [nameF, this]
  have wa : ∀ h Q, CallsX Tryd.prog 48 #[.string s, .int .i64 0] h Q = Q (.returned (.string (s.extract 0 (wlen s.toList)))) h := fun h Q => by
    have e := wordAt_p s 0 (by omega) (by omega) h Q
    simp only [List.drop_zero, Nat.zero_add] at e
    exact e
  rcases cls_letter c.toNat hcl with ⟨k1, k2⟩ | ⟨k1, k2⟩
  · simp only [argE_nil, argE_cons, ↓vmD, vmV, vmStd, Nat.reduceMul, ↓reduceIte, Nat.reduceAdd, Nat.reduceSub, Nat.reduceEqDiff, Nat.reduceLT, Nat.reduceLeDiff, reduceCtorEq, Int.reduceToNat, Int.reduceLT, Int.reduceLE, Int.reduceEq, Int.reduceNeg, Int.reduceBEq, Int.reduceBNe, String.reduceEq, forall_const, tyS, pbNam, e0, h16, hb, w32, hcl, k1, wa, hx]
    have h1 : s.size ≤ 16 := by omega
    have h2 : 0 < s.size := by omega
    rw [i_eq]
    simp only [nameF, h1, h2, decide_true, Bool.true_and]
    rw [hl]
    simp only [k2, Bool.true_and]
  · simp only [argE_nil, argE_cons, ↓vmD, vmV, vmStd, Nat.reduceMul, ↓reduceIte, Nat.reduceAdd, Nat.reduceSub, Nat.reduceEqDiff, Nat.reduceLT, Nat.reduceLeDiff, reduceCtorEq, Int.reduceToNat, Int.reduceLT, Int.reduceLE, Int.reduceEq, Int.reduceNeg, Int.reduceBEq, Int.reduceBNe, String.reduceEq, forall_const, tyS, pbNam, e0, h16, hb, w32, hcl, k1]
    simp only [nameF]
    rw [hl]
    simp [k2]
theorem isName_p (s : ByteArray) (h : Heap) (Q : Ending → Heap → Prop) : CallsX Tryd.prog 30 #[.string s] h Q = Q (.returned (.bool (nameF s))) (h) := CallsX.exact (by kernel_rfl) (isName_h s h)
theorem isName_q (s : ByteArray) (h : Heap) (nt_ : Nat) (dst_ : Option Nat) (ρ_ : Env) (K_ : Env → Prop) : callQ Tryd.prog nt_ dst_ (.func (.func 30) #[] #[]) [.string s] ρ_ h K_ = putK nt_ dst_ (.bool (nameF s)) ρ_ K_ := callQ_exact (by kernel_rfl) (by kernel_rfl) (isName_h s h)
theorem isName_v (s : ByteArray) (A_ : AH) : valA Tryd.prog 30 #[.string s] A_ = some (.bool (nameF s)) := pureA_e (by kernel_rfl) (by kernel_rfl) (fun h => isName_h s h)
theorem risName_h (s : ByteArray) (h : Heap) : CallsH Tryd.prog 33 #[.string s] h fun r h' => r = .returned (.bool (nameF s)) ∧ h' = h := by
  refine callsH_of_den ⟨Tryd.prog, 33, Tryd.f33, 22, [0, 2], _⟩ (args := [_]) Tryd.func33 rfl Tryd.ntmps33 (by simp) ?_
  by_cases h0 : s.size = 0
  · have e0 : (s.toList = []) = True := by simp [toList_nil h0]
    simp only [argE_nil, argE_cons, ↓vmD, vmV, vmStd, Nat.reduceMul, ↓reduceIte, Nat.reduceAdd, Nat.reduceSub, Nat.reduceEqDiff, Nat.reduceLT, Nat.reduceLeDiff, reduceCtorEq, Int.reduceToNat, Int.reduceLT, Int.reduceLE, Int.reduceEq, Int.reduceNeg, Int.reduceBEq, Int.reduceBNe, String.reduceEq, forall_const, tyS, pbNam, isName_p, e0, toList_nil h0]
    simp [nameF, h0]
  have e0 : (s.toList = []) = False := by simp; intro h; have := size_list s; rw [h] at this; simp at this; omega
  obtain ⟨c, l, hl⟩ := drop_byte (s := s) (i := 0) (by omega)
  obtain ⟨hp, hc, hl', hsl, hb⟩ := byte_at hl
  rw [List.drop_zero] at hl
  by_cases h16 : (s.size : Int) ≤ (16 : Int)
  · have wa : ∀ h Q, CallsX Tryd.prog 51 #[.string s, .int .i64 0] h Q = Q (.returned (.int .i64 ((wlen s.toList : Nat) : Int))) h := fun h Q => by
      have e := rword_p s 0 (by omega) (by omega) h Q
      simp only [List.drop_zero, Nat.zero_add] at e
      exact e
    have h1 : s.size ≤ 16 := by omega
    have h2 : 0 < s.size := by omega
    cases k2 : letterB c.toNat with
    | true =>
      simp only [argE_nil, argE_cons, ↓vmD, vmV, vmStd, Nat.reduceMul, ↓reduceIte, Nat.reduceAdd, Nat.reduceSub, Nat.reduceEqDiff, Nat.reduceLT, Nat.reduceLeDiff, reduceCtorEq, Int.reduceToNat, Int.reduceLT, Int.reduceLE, Int.reduceEq, Int.reduceNeg, Int.reduceBEq, Int.reduceBNe, String.reduceEq, forall_const, tyS, pbNam, isName_p, e0, h16, hb, k2, wa]
      simp only [nameF, h1, h2, decide_true, Bool.true_and]
      rw [hl]
      simp only [k2, Bool.true_and, i_eq]
    | false =>
      simp only [argE_nil, argE_cons, ↓vmD, vmV, vmStd, Nat.reduceMul, ↓reduceIte, Nat.reduceAdd, Nat.reduceSub, Nat.reduceEqDiff, Nat.reduceLT, Nat.reduceLeDiff, reduceCtorEq, Int.reduceToNat, Int.reduceLT, Int.reduceLE, Int.reduceEq, Int.reduceNeg, Int.reduceBEq, Int.reduceBNe, String.reduceEq, forall_const, tyS, pbNam, isName_p, e0, h16, hb, k2, wa]
      simp only [nameF]
      rw [hl]
      simp [k2]
  · simp only [argE_nil, argE_cons, ↓vmD, vmV, vmStd, Nat.reduceMul, ↓reduceIte, Nat.reduceAdd, Nat.reduceSub, Nat.reduceEqDiff, Nat.reduceLT, Nat.reduceLeDiff, reduceCtorEq, Int.reduceToNat, Int.reduceLT, Int.reduceLE, Int.reduceEq, Int.reduceNeg, Int.reduceBEq, Int.reduceBNe, String.reduceEq, forall_const, tyS, pbNam, isName_p, e0, h16]
    have : ¬ s.size ≤ 16 := by omega
    simp [nameF, this]
theorem risName_p (s : ByteArray) (h : Heap) (Q : Ending → Heap → Prop) : CallsX Tryd.prog 33 #[.string s] h Q = Q (.returned (.bool (nameF s))) (h) := CallsX.exact (by kernel_rfl) (risName_h s h)
theorem risName_q (s : ByteArray) (h : Heap) (nt_ : Nat) (dst_ : Option Nat) (ρ_ : Env) (K_ : Env → Prop) : callQ Tryd.prog nt_ dst_ (.func (.func 33) #[] #[]) [.string s] ρ_ h K_ = putK nt_ dst_ (.bool (nameF s)) ρ_ K_ := callQ_exact (by kernel_rfl) (by kernel_rfl) (risName_h s h)
theorem risName_v (s : ByteArray) (A_ : AH) : valA Tryd.prog 33 #[.string s] A_ = some (.bool (nameF s)) := pureA_e (by kernel_rfl) (by kernel_rfl) (fun h => risName_h s h)
end Go.Proofs.YtamiclgnehfhpaaDoor
