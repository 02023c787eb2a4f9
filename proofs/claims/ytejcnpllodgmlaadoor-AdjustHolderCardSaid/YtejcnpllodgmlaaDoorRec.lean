/-
Clearing records: what the checks of package record and of its reference compute.
Conditions: none.
-/
import Derived.Test.YtejcnpllodgmlaaDoorPanC
namespace Go.Proofs.YtejcnpllodgmlaaDoor
open Go.Vm
set_option linter.unusedSimpArgs false
set_option linter.unusedVariables false
set_option maxHeartbeats 1000000
set_option maxRecDepth 20000

def idC (c : Nat) : Bool := letterB c || digitB c || decide (c = 95) || decide (c = 45)
def idL (l : List UInt8) : Bool := l.all fun c => idC c.toNat
def idF (s : ByteArray) : Bool := decide (1 ≤ s.size) && (decide (s.size ≤ 16) && idL s.toList)
def upL (l : List UInt8) : Bool := l.all fun c => decide (65 ≤ c.toNat) && decide (c.toNat ≤ 90)
def curF (s : ByteArray) : Bool := decide (s.size = 3) && upL s.toList
theorem idL_cons (c : UInt8) (l : List UInt8) : idL (c :: l) = (idC c.toNat && idL l) := rfl
theorem upL_cons (c : UInt8) (l : List UInt8) : upL (c :: l) = ((decide (65 ≤ c.toNat) && decide (c.toNat ≤ 90)) && upL l) := rfl
theorem recId_h (s : ByteArray) (hs : s.size ≤ 200000000000000) (h : Heap) : CallsH Tryd.prog 39 #[.string s] h fun r h' => r = .returned (.bool (idF s)) ∧ h' = h := by
  refine callsH_of_den ⟨Tryd.prog, 39, Tryd.f39, 45, [0, 2, 3, 4, 14, 15], _⟩ (args := [_]) Tryd.func39 rfl Tryd.ntmps39 (by simp) ?_
  simp only [argE_nil, argE_cons, ↓vmD, vmV, vmStd, Nat.reduceMul, ↓reduceIte, Nat.reduceAdd, Nat.reduceSub, Nat.reduceEqDiff, Nat.reduceLT, Nat.reduceLeDiff, reduceCtorEq, Int.reduceToNat, Int.reduceLT, Int.reduceLE, Int.reduceEq, Int.reduceNeg, Int.reduceBEq, Int.reduceBNe, String.reduceEq, forall_const, tyS, slIndexByte_p, indexByte_p, indexRune_p, containsRune_p, classOf_p, isWordByte_p, letter_p, digit_p, wordAt_p, rword_p, isName_p, risName_p]
  split
  · rename_i h0
    have : ¬ (1 ≤ s.size ∧ s.size ≤ 16) := by omega
    by_cases h1 : 1 ≤ s.size
    · have h2 : ¬ s.size ≤ 16 := by omega
      simp [idF, h2]
    · simp [idF, h1]
  rename_i h0
  have h3 : 1 ≤ s.size := by omega
  have h4 : s.size ≤ 16 := by omega
  obtain ⟨e, he, h1, h2⟩ : ∃ e : Nat, e = 0 ∧ e ≤ s.size ∧ idL s.toList = idL (s.toList.drop e) := ⟨0, rfl, by omega, rfl⟩
  rw [show (15, some (Value.int .i64 0)) = (15, some (Value.int .i64 (e : Int))) by rw [he]; rfl]
  clear he
  generalize hl : s.toList.drop e = l at h2
  induction l generalizing e with
  | nil =>
    have hlt : ((e : Int) < (s.size : Int)) = False := by have := byte_end hl; simp; omega
    have hA : idL s.toList = true := by rw [h2]; rfl
    refine LoopAt.intro ?_
    simp only [argE_nil, argE_cons, ↓vmD, vmV, vmStd, Nat.reduceMul, ↓reduceIte, Nat.reduceAdd, Nat.reduceSub, Nat.reduceEqDiff, Nat.reduceLT, Nat.reduceLeDiff, reduceCtorEq, Int.reduceToNat, Int.reduceLT, Int.reduceLE, Int.reduceEq, Int.reduceNeg, Int.reduceBEq, Int.reduceBNe, String.reduceEq, forall_const, tyS, slIndexByte_p, indexByte_p, indexRune_p, containsRune_p, classOf_p, isWordByte_p, letter_p, digit_p, wordAt_p, rword_p, isName_p, risName_p, hlt]; simp [idF, hA, h3, h4]
  | cons c l ih =>
    obtain ⟨hp, hc, hl', hsl, hb⟩ := byte_at hl
    have hlt : ((e : Int) < (s.size : Int)) = True := by simp; omega
    have we : IntKind.i64.wrap ((e : Int) + 1) = ((e + 1 : Nat) : Int) := by rw [w_i64 (by omega) (by omega)]; omega
    rw [idL_cons] at h2
    have K : idC c.toNat = true → idL s.toList = idL l := fun hk => by rw [h2, hk, Bool.true_and]
    have F : idC c.toNat = false → Ending.returned (Value.bool false) = Ending.returned (Value.bool (idF s)) := fun hk => by rw [hk, Bool.false_and] at h2; simp [idF, h2]
    refine LoopAt.intro ?_
    simp only [argE_nil, argE_cons, ↓vmD, vmV, vmStd, Nat.reduceMul, ↓reduceIte, Nat.reduceAdd, Nat.reduceSub, Nat.reduceEqDiff, Nat.reduceLT, Nat.reduceLeDiff, reduceCtorEq, Int.reduceToNat, Int.reduceLT, Int.reduceLE, Int.reduceEq, Int.reduceNeg, Int.reduceBEq, Int.reduceBNe, String.reduceEq, forall_const, tyS, slIndexByte_p, indexByte_p, indexRune_p, containsRune_p, classOf_p, isWordByte_p, letter_p, digit_p, wordAt_p, rword_p, isName_p, risName_p, hlt, hb, we]
    try simp only [i_eq, bne, decide_eq_true_eq, Bool.not_eq_true', decide_eq_false_iff_not, Bool.or_eq_false_iff, Bool.and_eq_false_iff, beq_eq_false_iff_ne, ne_eq]
    repeat' split
    all_goals first
      | exact LoopAt.weak (ih (e + 1) (by omega) hl' (K (by simp only [idC, letterB, digitB, Bool.or_eq_true, Bool.and_eq_true, decide_eq_true_eq]; omega))) (by simp only [subE, get_cons, Nat.reduceEqDiff, ↓reduceIte, reduceCtorEq, Nat.reduceAdd, and_self, and_true])
      | exact F (by simp only [idC, letterB, digitB, Bool.or_eq_false_iff, Bool.and_eq_false_iff, decide_eq_false_iff_not]; omega)
theorem recId_p (s : ByteArray) (hs : s.size ≤ 200000000000000) (h : Heap) (Q : Ending → Heap → Prop) : CallsX Tryd.prog 39 #[.string s] h Q = Q (.returned (.bool (idF s))) (h) := CallsX.exact (by kernel_rfl) (recId_h s hs h)
theorem recId_q (s : ByteArray) (hs : s.size ≤ 200000000000000) (h : Heap) (nt_ : Nat) (dst_ : Option Nat) (ρ_ : Env) (K_ : Env → Prop) : callQ Tryd.prog nt_ dst_ (.func (.func 39) #[] #[]) [.string s] ρ_ h K_ = putK nt_ dst_ (.bool (idF s)) ρ_ K_ := callQ_exact (by kernel_rfl) (by kernel_rfl) (recId_h s hs h)
theorem recId_v (s : ByteArray) (hs : s.size ≤ 200000000000000) (A_ : AH) : valA Tryd.prog 39 #[.string s] A_ = some (.bool (idF s)) := pureA_e (by kernel_rfl) (by kernel_rfl) (fun h => recId_h s hs h)
theorem rId13_h (s : ByteArray) (hs : s.size ≤ 200000000000000) (h : Heap) : CallsH Tryd.prog 35 #[.string s] h fun r h' => r = .returned (.bool (idF s)) ∧ h' = h := by
  refine callsH_of_den ⟨Tryd.prog, 35, Tryd.f35, 52, [0, 2, 3, 4], _⟩ (args := [_]) Tryd.func35 rfl Tryd.ntmps35 (by simp) ?_
  simp only [argE_nil, argE_cons, ↓vmD, vmV, vmStd, Nat.reduceMul, ↓reduceIte, Nat.reduceAdd, Nat.reduceSub, Nat.reduceEqDiff, Nat.reduceLT, Nat.reduceLeDiff, reduceCtorEq, Int.reduceToNat, Int.reduceLT, Int.reduceLE, Int.reduceEq, Int.reduceNeg, Int.reduceBEq, Int.reduceBNe, String.reduceEq, forall_const, tyS, slIndexByte_p, indexByte_p, indexRune_p, containsRune_p, classOf_p, isWordByte_p, letter_p, digit_p, wordAt_p, rword_p, isName_p, risName_p, recId_p]
  obtain ⟨e, he, h1, h2⟩ : ∃ e : Nat, e = 0 ∧ e ≤ s.size ∧ idL s.toList = idL (s.toList.drop e) := ⟨0, rfl, by omega, rfl⟩
  rw [show (3, some (Value.int .i64 0)) = (3, some (Value.int .i64 (e : Int))) by rw [he]; rfl]
  clear he
  generalize hl : s.toList.drop e = l at h2
  induction l generalizing e with
  | nil =>
    have hlt : ((e : Int) < (s.size : Int)) = False := by have := byte_end hl; simp; omega
    have hA : idL s.toList = true := by rw [h2]; rfl
    refine LoopAt.intro ?_
    simp only [argE_nil, argE_cons, ↓vmD, vmV, vmStd, Nat.reduceMul, ↓reduceIte, Nat.reduceAdd, Nat.reduceSub, Nat.reduceEqDiff, Nat.reduceLT, Nat.reduceLeDiff, reduceCtorEq, Int.reduceToNat, Int.reduceLT, Int.reduceLE, Int.reduceEq, Int.reduceNeg, Int.reduceBEq, Int.reduceBNe, String.reduceEq, forall_const, tyS, slIndexByte_p, indexByte_p, indexRune_p, containsRune_p, classOf_p, isWordByte_p, letter_p, digit_p, wordAt_p, rword_p, isName_p, risName_p, recId_p, hlt]; simp only [idF, hA, Bool.and_true]; by_cases h3 : 1 ≤ s.size <;> by_cases h4 : s.size ≤ 16 <;> simp [h3, h4] <;> omega
  | cons c l ih =>
    obtain ⟨hp, hc, hl', hsl, hb⟩ := byte_at hl
    have hlt : ((e : Int) < (s.size : Int)) = True := by simp; omega
    have we : IntKind.i64.wrap ((e : Int) + 1) = ((e + 1 : Nat) : Int) := by rw [w_i64 (by omega) (by omega)]; omega
    rw [idL_cons] at h2
    have K : idC c.toNat = true → idL s.toList = idL l := fun hk => by rw [h2, hk, Bool.true_and]
    have F : idC c.toNat = false → Ending.returned (Value.bool false) = Ending.returned (Value.bool (idF s)) := fun hk => by rw [hk, Bool.false_and] at h2; simp [idF, h2]
    refine LoopAt.intro ?_
    simp only [argE_nil, argE_cons, ↓vmD, vmV, vmStd, Nat.reduceMul, ↓reduceIte, Nat.reduceAdd, Nat.reduceSub, Nat.reduceEqDiff, Nat.reduceLT, Nat.reduceLeDiff, reduceCtorEq, Int.reduceToNat, Int.reduceLT, Int.reduceLE, Int.reduceEq, Int.reduceNeg, Int.reduceBEq, Int.reduceBNe, String.reduceEq, forall_const, tyS, slIndexByte_p, indexByte_p, indexRune_p, containsRune_p, classOf_p, isWordByte_p, letter_p, digit_p, wordAt_p, rword_p, isName_p, risName_p, recId_p, hlt, hb, we]
    try simp only [i_eq, bne, decide_eq_true_eq, Bool.not_eq_true', decide_eq_false_iff_not, Bool.or_eq_false_iff, Bool.and_eq_false_iff, beq_eq_false_iff_ne, ne_eq]
    repeat' split
    all_goals first
      | exact LoopAt.weak (ih (e + 1) (by omega) hl' (K (by simp only [idC, letterB, digitB, Bool.or_eq_true, Bool.and_eq_true, decide_eq_true_eq]; omega))) (by simp only [subE, get_cons, Nat.reduceEqDiff, ↓reduceIte, reduceCtorEq, Nat.reduceAdd, and_self, and_true])
      | exact F (by simp only [idC, letterB, digitB, Bool.or_eq_false_iff, Bool.and_eq_false_iff, decide_eq_false_iff_not]; omega)
theorem rId13_p (s : ByteArray) (hs : s.size ≤ 200000000000000) (h : Heap) (Q : Ending → Heap → Prop) : CallsX Tryd.prog 35 #[.string s] h Q = Q (.returned (.bool (idF s))) (h) := CallsX.exact (by kernel_rfl) (rId13_h s hs h)
theorem rId13_q (s : ByteArray) (hs : s.size ≤ 200000000000000) (h : Heap) (nt_ : Nat) (dst_ : Option Nat) (ρ_ : Env) (K_ : Env → Prop) : callQ Tryd.prog nt_ dst_ (.func (.func 35) #[] #[]) [.string s] ρ_ h K_ = putK nt_ dst_ (.bool (idF s)) ρ_ K_ := callQ_exact (by kernel_rfl) (by kernel_rfl) (rId13_h s hs h)
theorem rId13_v (s : ByteArray) (hs : s.size ≤ 200000000000000) (A_ : AH) : valA Tryd.prog 35 #[.string s] A_ = some (.bool (idF s)) := pureA_e (by kernel_rfl) (by kernel_rfl) (fun h => rId13_h s hs h)
theorem moneyCur_h (s : ByteArray) (hs : s.size ≤ 200000000000000) (h : Heap) : CallsH Tryd.prog 54 #[.string s] h fun r h' => r = .returned (.bool (curF s)) ∧ h' = h := by
  refine callsH_of_den ⟨Tryd.prog, 54, Tryd.f54, 23, [0, 2, 3, 8, 9], _⟩ (args := [_]) Tryd.func54 rfl Tryd.ntmps54 (by simp) ?_
  by_cases h3 : s.size = 3
  rotate_left
  · have h4 : ((s.size : Int) == 3) = false := by rw [beq_eq_false_iff_ne]; omega
    have h5 : ((s.size : Int) != 3) = true := by rw [bne, h4]; rfl
    have h6 : ((s.size : Int) = 3) = False := by simp; omega
    simp only [argE_nil, argE_cons, ↓vmD, vmV, vmStd, Nat.reduceMul, ↓reduceIte, Nat.reduceAdd, Nat.reduceSub, Nat.reduceEqDiff, Nat.reduceLT, Nat.reduceLeDiff, reduceCtorEq, Int.reduceToNat, Int.reduceLT, Int.reduceLE, Int.reduceEq, Int.reduceNeg, Int.reduceBEq, Int.reduceBNe, String.reduceEq, forall_const, tyS, slIndexByte_p, indexByte_p, indexRune_p, containsRune_p, classOf_p, isWordByte_p, letter_p, digit_p, wordAt_p, rword_p, isName_p, risName_p, recId_p, rId13_p, h4, h5, h6]
    simp [curF, h3]
  have h4 : ((s.size : Int) == 3) = true := by rw [beq_iff_eq]; omega
  have h5 : ((s.size : Int) != 3) = false := by rw [bne, h4]; rfl
  have h6 : ((s.size : Int) = 3) = True := by simp; omega
  simp only [argE_nil, argE_cons, ↓vmD, vmV, vmStd, Nat.reduceMul, ↓reduceIte, Nat.reduceAdd, Nat.reduceSub, Nat.reduceEqDiff, Nat.reduceLT, Nat.reduceLeDiff, reduceCtorEq, Int.reduceToNat, Int.reduceLT, Int.reduceLE, Int.reduceEq, Int.reduceNeg, Int.reduceBEq, Int.reduceBNe, String.reduceEq, forall_const, tyS, slIndexByte_p, indexByte_p, indexRune_p, containsRune_p, classOf_p, isWordByte_p, letter_p, digit_p, wordAt_p, rword_p, isName_p, risName_p, recId_p, rId13_p, h4, h5, h6]
  obtain ⟨e, he, h1, h2⟩ : ∃ e : Nat, e = 0 ∧ e ≤ s.size ∧ upL s.toList = upL (s.toList.drop e) := ⟨0, rfl, by omega, rfl⟩
  rw [show (9, some (Value.int .i64 0)) = (9, some (Value.int .i64 (e : Int))) by rw [he]; rfl]
  clear he
  generalize hl : s.toList.drop e = l at h2
  induction l generalizing e with
  | nil =>
    have hlt : ((e : Int) < (s.size : Int)) = False := by have := byte_end hl; simp; omega
    have hA : upL s.toList = true := by rw [h2]; rfl
    refine LoopAt.intro ?_
    simp only [argE_nil, argE_cons, ↓vmD, vmV, vmStd, Nat.reduceMul, ↓reduceIte, Nat.reduceAdd, Nat.reduceSub, Nat.reduceEqDiff, Nat.reduceLT, Nat.reduceLeDiff, reduceCtorEq, Int.reduceToNat, Int.reduceLT, Int.reduceLE, Int.reduceEq, Int.reduceNeg, Int.reduceBEq, Int.reduceBNe, String.reduceEq, forall_const, tyS, slIndexByte_p, indexByte_p, indexRune_p, containsRune_p, classOf_p, isWordByte_p, letter_p, digit_p, wordAt_p, rword_p, isName_p, risName_p, recId_p, rId13_p, hlt]; simp [curF, hA, h3]
  | cons c l ih =>
    obtain ⟨hp, hc, hl', hsl, hb⟩ := byte_at hl
    have hlt : ((e : Int) < (s.size : Int)) = True := by simp; omega
    have we : IntKind.i64.wrap ((e : Int) + 1) = ((e + 1 : Nat) : Int) := by rw [w_i64 (by omega) (by omega)]; omega
    rw [upL_cons] at h2
    have K : (decide (65 ≤ c.toNat) && decide (c.toNat ≤ 90)) = true → upL s.toList = upL l := fun hk => by rw [h2, hk, Bool.true_and]
    have F : (decide (65 ≤ c.toNat) && decide (c.toNat ≤ 90)) = false → Ending.returned (Value.bool false) = Ending.returned (Value.bool (curF s)) := fun hk => by rw [hk, Bool.false_and] at h2; simp [curF, h2]
    refine LoopAt.intro ?_
    simp only [argE_nil, argE_cons, ↓vmD, vmV, vmStd, Nat.reduceMul, ↓reduceIte, Nat.reduceAdd, Nat.reduceSub, Nat.reduceEqDiff, Nat.reduceLT, Nat.reduceLeDiff, reduceCtorEq, Int.reduceToNat, Int.reduceLT, Int.reduceLE, Int.reduceEq, Int.reduceNeg, Int.reduceBEq, Int.reduceBNe, String.reduceEq, forall_const, tyS, slIndexByte_p, indexByte_p, indexRune_p, containsRune_p, classOf_p, isWordByte_p, letter_p, digit_p, wordAt_p, rword_p, isName_p, risName_p, recId_p, rId13_p, hlt, hb, we]
    try simp only [i_eq, bne, decide_eq_true_eq, Bool.not_eq_true', decide_eq_false_iff_not, Bool.or_eq_false_iff, Bool.and_eq_false_iff, beq_eq_false_iff_ne, ne_eq]
    repeat' split
    all_goals first
      | exact LoopAt.weak (ih (e + 1) (by omega) hl' (K (by simp only [idC, letterB, digitB, Bool.or_eq_true, Bool.and_eq_true, decide_eq_true_eq]; omega))) (by simp only [subE, get_cons, Nat.reduceEqDiff, ↓reduceIte, reduceCtorEq, Nat.reduceAdd, and_self, and_true])
      | exact F (by simp only [idC, letterB, digitB, Bool.or_eq_false_iff, Bool.and_eq_false_iff, decide_eq_false_iff_not]; omega)
theorem moneyCur_p (s : ByteArray) (hs : s.size ≤ 200000000000000) (h : Heap) (Q : Ending → Heap → Prop) : CallsX Tryd.prog 54 #[.string s] h Q = Q (.returned (.bool (curF s))) (h) := CallsX.exact (by kernel_rfl) (moneyCur_h s hs h)
theorem moneyCur_q (s : ByteArray) (hs : s.size ≤ 200000000000000) (h : Heap) (nt_ : Nat) (dst_ : Option Nat) (ρ_ : Env) (K_ : Env → Prop) : callQ Tryd.prog nt_ dst_ (.func (.func 54) #[] #[]) [.string s] ρ_ h K_ = putK nt_ dst_ (.bool (curF s)) ρ_ K_ := callQ_exact (by kernel_rfl) (by kernel_rfl) (moneyCur_h s hs h)
theorem moneyCur_v (s : ByteArray) (hs : s.size ≤ 200000000000000) (A_ : AH) : valA Tryd.prog 54 #[.string s] A_ = some (.bool (curF s)) := pureA_e (by kernel_rfl) (by kernel_rfl) (fun h => moneyCur_h s hs h)
theorem three {s : ByteArray} (h : s.size = 3) : ∃ a b c : UInt8, s.toList = [a, b, c] ∧ s.data[0]? = some a ∧ s.data[1]? = some b ∧ s.data[2]? = some c := by
  obtain ⟨a, l, hl⟩ := drop_byte (s := s) (i := 0) (by omega)
  obtain ⟨_, _, h1, h2, h3⟩ := byte_at hl
  obtain ⟨b, l2, hl2⟩ := drop_byte (s := s) (i := 1) (by omega)
  obtain ⟨_, _, g1, g2, g3⟩ := byte_at hl2
  obtain ⟨c, l3, hl3⟩ := drop_byte (s := s) (i := 2) (by omega)
  obtain ⟨_, _, f1, f2, f3⟩ := byte_at hl3
  refine ⟨a, b, c, ?_, h3, g3, f3⟩
  have : l3 = [] := List.eq_nil_of_length_eq_zero (by omega)
  rw [List.drop_zero] at hl
  rw [hl, ← h1, hl2, ← g1, hl3, this]
theorem rCur01_h (s : ByteArray) (hs : s.size ≤ 200000000000000) (h : Heap) : CallsH Tryd.prog 48 #[.string s] h fun r h' => r = .returned (.bool (curF s)) ∧ h' = h := by
  refine callsH_of_den ⟨Tryd.prog, 48, Tryd.f48, 27, [0, 2, 3], _⟩ (args := [_]) Tryd.func48 rfl Tryd.ntmps48 (by simp) ?_
  simp only [argE_nil, argE_cons, ↓vmD, vmV, vmStd, Nat.reduceMul, ↓reduceIte, Nat.reduceAdd, Nat.reduceSub, Nat.reduceEqDiff, Nat.reduceLT, Nat.reduceLeDiff, reduceCtorEq, Int.reduceToNat, Int.reduceLT, Int.reduceLE, Int.reduceEq, Int.reduceNeg, Int.reduceBEq, Int.reduceBNe, String.reduceEq, forall_const, tyS, slIndexByte_p, indexByte_p, indexRune_p, containsRune_p, classOf_p, isWordByte_p, letter_p, digit_p, wordAt_p, rword_p, isName_p, risName_p, recId_p, rId13_p, moneyCur_p]
  obtain ⟨e, he, h1, h2, h0⟩ : ∃ e : Nat, e = 0 ∧ e ≤ s.size ∧ (s.size = 3 → upL s.toList = upL (s.toList.drop e)) ∧ e ≤ 3 := ⟨0, rfl, by omega, fun _ => rfl, by omega⟩
  rw [show (3, some (Value.int .i64 0)) = (3, some (Value.int .i64 (e : Int))) by rw [he]; rfl]
  clear he
  obtain ⟨m, hm⟩ : ∃ m, 3 - e ≤ m := ⟨_, Nat.le_refl _⟩
  induction m generalizing e with
  | zero =>
    have e3 : ((e : Int) < 3) = False := by simp; omega
    refine LoopAt.intro ?_
    have fin : (decide ((s.size : Int) = 3)) = curF s := by
      by_cases h3 : s.size = 3
      · have hA := h2 h3
        rw [List.drop_of_length_le (by rw [size_list]; omega)] at hA
        have : upL ([] : List UInt8) = true := rfl
        simp [curF, h3, hA, this]
      · have : ¬ (s.size : Int) = 3 := by omega
        simp [curF, h3, this]
    by_cases hlt : (e : Int) < (s.size : Int)
    · simp only [argE_nil, argE_cons, ↓vmD, vmV, vmStd, Nat.reduceMul, ↓reduceIte, Nat.reduceAdd, Nat.reduceSub, Nat.reduceEqDiff, Nat.reduceLT, Nat.reduceLeDiff, reduceCtorEq, Int.reduceToNat, Int.reduceLT, Int.reduceLE, Int.reduceEq, Int.reduceNeg, Int.reduceBEq, Int.reduceBNe, String.reduceEq, forall_const, tyS, slIndexByte_p, indexByte_p, indexRune_p, containsRune_p, classOf_p, isWordByte_p, letter_p, digit_p, wordAt_p, rword_p, isName_p, risName_p, recId_p, rId13_p, moneyCur_p, hlt, e3, i_eq]
      rw [← fin]
      first | rfl | simp [beq_eq_decide]
    · simp only [argE_nil, argE_cons, ↓vmD, vmV, vmStd, Nat.reduceMul, ↓reduceIte, Nat.reduceAdd, Nat.reduceSub, Nat.reduceEqDiff, Nat.reduceLT, Nat.reduceLeDiff, reduceCtorEq, Int.reduceToNat, Int.reduceLT, Int.reduceLE, Int.reduceEq, Int.reduceNeg, Int.reduceBEq, Int.reduceBNe, String.reduceEq, forall_const, tyS, slIndexByte_p, indexByte_p, indexRune_p, containsRune_p, classOf_p, isWordByte_p, letter_p, digit_p, wordAt_p, rword_p, isName_p, risName_p, recId_p, rId13_p, moneyCur_p, hlt, e3, i_eq]
      rw [← fin]
      first | rfl | simp [beq_eq_decide]
  | succ m ih =>
    refine LoopAt.intro ?_
    by_cases hlt : (e : Int) < (s.size : Int)
    rotate_left
    · have fin : (decide ((s.size : Int) = 3)) = curF s := by
        by_cases h3 : s.size = 3
        · have hA := h2 h3
          rw [List.drop_of_length_le (by rw [size_list]; omega)] at hA
          have : upL ([] : List UInt8) = true := rfl
          simp [curF, h3, hA, this]
        · have : ¬ (s.size : Int) = 3 := by omega
          simp [curF, h3, this]
      simp only [argE_nil, argE_cons, ↓vmD, vmV, vmStd, Nat.reduceMul, ↓reduceIte, Nat.reduceAdd, Nat.reduceSub, Nat.reduceEqDiff, Nat.reduceLT, Nat.reduceLeDiff, reduceCtorEq, Int.reduceToNat, Int.reduceLT, Int.reduceLE, Int.reduceEq, Int.reduceNeg, Int.reduceBEq, Int.reduceBNe, String.reduceEq, forall_const, tyS, slIndexByte_p, indexByte_p, indexRune_p, containsRune_p, classOf_p, isWordByte_p, letter_p, digit_p, wordAt_p, rword_p, isName_p, risName_p, recId_p, rId13_p, moneyCur_p, hlt]
      rw [← fin]
      first | rfl | simp [beq_eq_decide]
    by_cases e3 : (e : Int) < 3
    rotate_left
    · have fin : (decide ((s.size : Int) = 3)) = curF s := by
        have h3 : ¬ s.size = 3 := by omega
        have : ¬ (s.size : Int) = 3 := by omega
        simp [curF, h3, this]
      simp only [argE_nil, argE_cons, ↓vmD, vmV, vmStd, Nat.reduceMul, ↓reduceIte, Nat.reduceAdd, Nat.reduceSub, Nat.reduceEqDiff, Nat.reduceLT, Nat.reduceLeDiff, reduceCtorEq, Int.reduceToNat, Int.reduceLT, Int.reduceLE, Int.reduceEq, Int.reduceNeg, Int.reduceBEq, Int.reduceBNe, String.reduceEq, forall_const, tyS, slIndexByte_p, indexByte_p, indexRune_p, containsRune_p, classOf_p, isWordByte_p, letter_p, digit_p, wordAt_p, rword_p, isName_p, risName_p, recId_p, rId13_p, moneyCur_p, hlt, e3]
      rw [← fin]
      first | rfl | simp [beq_eq_decide]
    obtain ⟨c, l, hl⟩ := drop_byte (s := s) (i := e) (by omega)
    obtain ⟨hp, hc, hl', hsl, hb⟩ := byte_at hl
    have we : IntKind.i64.wrap ((e : Int) + 1) = ((e + 1 : Nat) : Int) := by rw [w_i64 (by omega) (by omega)]; omega
    have K : (decide (65 ≤ c.toNat) && decide (c.toNat ≤ 90)) = true → (s.size = 3 → upL s.toList = upL (s.toList.drop (e + 1))) := fun hk h3 => by rw [h2 h3, hl, hl', upL_cons, hk, Bool.true_and]
    have F : (decide (65 ≤ c.toNat) && decide (c.toNat ≤ 90)) = false → Ending.returned (Value.bool false) = Ending.returned (Value.bool (curF s)) := fun hk => by
      by_cases h3 : s.size = 3
      · have hA := h2 h3
        rw [hl, upL_cons, hk, Bool.false_and] at hA
        simp [curF, hA]
      · simp [curF, h3]
    simp only [argE_nil, argE_cons, ↓vmD, vmV, vmStd, Nat.reduceMul, ↓reduceIte, Nat.reduceAdd, Nat.reduceSub, Nat.reduceEqDiff, Nat.reduceLT, Nat.reduceLeDiff, reduceCtorEq, Int.reduceToNat, Int.reduceLT, Int.reduceLE, Int.reduceEq, Int.reduceNeg, Int.reduceBEq, Int.reduceBNe, String.reduceEq, forall_const, tyS, slIndexByte_p, indexByte_p, indexRune_p, containsRune_p, classOf_p, isWordByte_p, letter_p, digit_p, wordAt_p, rword_p, isName_p, risName_p, recId_p, rId13_p, moneyCur_p, hlt, e3, hb, we]
    repeat' split
    all_goals first
      | exact LoopAt.weak (ih (e + 1) (by omega) (K (by simp only [Bool.and_eq_true, decide_eq_true_eq]; omega)) (by omega) (by omega)) (by simp only [subE, get_cons, Nat.reduceEqDiff, ↓reduceIte, reduceCtorEq, Nat.reduceAdd, and_self, and_true])
      | exact F (by simp only [Bool.and_eq_false_iff, decide_eq_false_iff_not]; omega)
theorem rCur01_p (s : ByteArray) (hs : s.size ≤ 200000000000000) (h : Heap) (Q : Ending → Heap → Prop) : CallsX Tryd.prog 48 #[.string s] h Q = Q (.returned (.bool (curF s))) (h) := CallsX.exact (by kernel_rfl) (rCur01_h s hs h)
theorem rCur01_q (s : ByteArray) (hs : s.size ≤ 200000000000000) (h : Heap) (nt_ : Nat) (dst_ : Option Nat) (ρ_ : Env) (K_ : Env → Prop) : callQ Tryd.prog nt_ dst_ (.func (.func 48) #[] #[]) [.string s] ρ_ h K_ = putK nt_ dst_ (.bool (curF s)) ρ_ K_ := callQ_exact (by kernel_rfl) (by kernel_rfl) (rCur01_h s hs h)
theorem rCur01_v (s : ByteArray) (hs : s.size ≤ 200000000000000) (A_ : AH) : valA Tryd.prog 48 #[.string s] A_ = some (.bool (curF s)) := pureA_e (by kernel_rfl) (by kernel_rfl) (fun h => rCur01_h s hs h)
end Go.Proofs.YtejcnpllodgmlaaDoor
