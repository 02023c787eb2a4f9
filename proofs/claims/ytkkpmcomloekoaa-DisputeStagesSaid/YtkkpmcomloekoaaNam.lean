/-
Words and names.
Conditions: none.
-/
import Derived.Test.YtkkpmcomloekoaaLexB
namespace Go.Proofs.Ytkkpmcomloekoaa
open Go.Vm
set_option linter.unusedSimpArgs false
set_option linter.unusedVariables false
set_option maxHeartbeats 1000000
set_option maxRecDepth 20000

theorem byte_at {s : ByteArray} {pos : Nat} {c : UInt8} {l : List UInt8} (h : s.toList.drop pos = c :: l) : ∃ hp : pos < s.size, s[pos]'hp = c ∧ s.toList.drop (pos + 1) = l ∧ s.size = pos + 1 + l.length ∧ s.data[pos]? = some c := by
  have hn : s.size = s.data.toList.length := rfl
  rw [ByteArray.toList_eq] at h ⊢
  have hlen : (s.data.toList.drop pos).length = l.length + 1 := by rw [h]; rfl
  have hl2 := hlen
  rw [List.length_drop, ← hn] at hl2
  have hp : pos < s.size := by omega
  have h1 := List.drop_eq_getElem_cons (l := s.data.toList) (i := pos) (by omega)
  rw [h] at h1
  simp only [List.cons.injEq] at h1
  refine ⟨hp, ?_, h1.2.symm, by omega, ?_⟩
  · rw [h1.1]; rfl
  · rw [h1.1]; simp
theorem byte_end {s : ByteArray} {pos : Nat} (h : s.toList.drop pos = []) : ¬ pos < s.size := by
  have hn : s.size = s.data.toList.length := rfl
  rw [ByteArray.toList_eq] at h
  have := congrArg List.length h
  rw [List.length_drop, ← hn] at this
  simp only [List.length_nil] at this
  omega
theorem size_list (s : ByteArray) : s.toList.length = s.size := by rw [ByteArray.toList_eq]; rfl
def wlen : List UInt8 → Nat
  | [] => 0
  | c :: l => if wordB c.toNat = true then wlen l + 1 else 0
def skN : Bool → List UInt8 → Nat
  | _, [] => 0
  | r, c :: l => if (r || (blankB c.toNat || decide (c.toNat = 35))) = true then skN ((r || decide (c.toNat = 35)) && !decide (c.toNat = 10)) l + 1 else 0
theorem wlen_le : ∀ l : List UInt8, wlen l ≤ l.length
  | [] => Nat.le_refl _
  | c :: l => by
    have := wlen_le l
    simp only [wlen, List.length_cons]
    split <;> omega
theorem skN_le : ∀ (r : Bool) (l : List UInt8), skN r l ≤ l.length
  | _, [] => Nat.le_refl _
  | r, c :: l => by
    have := skN_le ((r || decide (c.toNat = 35)) && !decide (c.toNat = 10)) l
    simp only [skN, List.length_cons]
    split <;> omega
theorem u8_lt (c : UInt8) : c.toNat < 256 := c.toNat_lt
theorem cls_word : ∀ c, c < 256 → (clsF c == 2 || clsF c == 3 || clsF c == 4) = wordB c := by decide +kernel
theorem letter_int (c : Nat) : (decide ((97 : Int) ≤ (c : Int)) && decide ((c : Int) ≤ 122) || decide ((65 : Int) ≤ (c : Int)) && decide ((c : Int) ≤ 90)) = letterB c := by
  rw [Bool.eq_iff_iff]; simp [letterB]; omega
theorem digit_int (c : Nat) : (decide ((48 : Int) ≤ (c : Int)) && decide ((c : Int) ≤ 57)) = digitB c := by
  rw [Bool.eq_iff_iff]; simp [digitB]; omega
theorem isWordByte_h (c : UInt8) (h : Heap) : CallsH Try.prog 43 #[.int .u8 (c.toNat : Int)] h fun r h' => r = .returned (.bool (wordB c.toNat)) ∧ h' = h := by
  refine callsH_of_den ⟨Try.prog, 43, Try.f43, 17, [0, 2, 3], _⟩ (args := [_]) Try.func43 rfl Try.ntmps43 (by simp) ?_
  have hc := u8_lt c
  have hw : IntKind.i32.wrap (c.toNat : Int) = c.toNat := w_i32 (by omega) (by omega)
  simp only [argE_nil, argE_cons, ↓vmD, vmV, szS, Nat.zero_mul, Nat.reduceMul, List.toList_toArray, ↓reduceIte, Nat.reduceAdd, Nat.reduceSub, Nat.reduceEqDiff, Nat.reduceLT, Nat.reduceLeDiff, reduceCtorEq, Option.some.injEq, Prod.mk.injEq, Bool.false_eq_true, Bool.true_eq_false, and_self, and_true, true_and, and_false, false_and, or_false, or_true, false_or, true_or, Bool.and_self, Bool.and_true, Bool.true_and, Bool.false_and, Bool.and_false, Bool.false_or, Bool.or_false, Bool.true_or, Bool.or_true, Bool.not_true, Bool.not_false, not_false_eq_true, not_true_eq_false, ne_eq, decide_true, decide_false, decide_eq_true_eq, forall_const, List.cons_append, List.nil_append, List.length_cons, List.length_nil, List.size_toArray, List.setIfInBounds_toArray, List.set_cons_zero, List.set_cons_succ, List.getElem?_toArray, List.getElem?_cons_zero, List.getElem?_cons_succ, List.extract_toArray, List.extract_eq_take_drop, List.drop_zero, List.drop_succ_cons, List.drop_nil, List.take_zero, List.take_succ_cons, List.take_nil, Nat.zero_add, Nat.add_zero, Int.reduceToNat, Int.reduceLT, Int.reduceLE, Int.reduceEq, Int.reduceNeg, Int.reduceBEq, Int.reduceBNe, Array.size_push, Int.natCast_nonneg, Int.toNat_natCast, Int.cast_ofNat_Int, Option.map_some, Option.map_none, Int.le_refl, Int.toNat_zero, beq_false, beq_true, bne_self_eq_false, beq_self_eq_true, Bool.not_eq_false', beq_eq_false_iff_ne, String.reduceEq, Int.lt_irrefl, Nat.lt_irrefl, getP, getS, setP, setS, sizeS, Nat.left_eq_add, Nat.add_eq_left, Nat.add_right_cancel_iff, Nat.add_left_cancel_iff, Nat.lt_add_one, Nat.succ_ne_self, Nat.one_ne_zero,  nil_str, Option.isNone_some, Option.isNone_none, Option.isSome_some, Option.isSome_none, Bool.not_eq_true', decide_eq_false_iff_not, Bool.or_eq_true, Bool.and_eq_true, beq_iff_eq, bne_iff_ne, tyS, slIndexByte_p, indexByte_p, indexRune_p, containsRune_p, classOf_p, hw, hc]
  rw [cls_word c.toNat hc]
theorem isWordByte_p (c : UInt8) (h : Heap) (Q : Ending → Heap → Prop) : CallsX Try.prog 43 #[.int .u8 (c.toNat : Int)] h Q = Q (.returned (.bool (wordB c.toNat))) (h) := CallsX.exact (by kernel_rfl) (isWordByte_h c h)
theorem isWordByte_q (c : UInt8) (h : Heap) (nt_ : Nat) (dst_ : Option Nat) (ρ_ : Env) (K_ : Env → Prop) : callQ Try.prog nt_ dst_ (.func (.func 43) #[] #[]) [.int .u8 (c.toNat : Int)] ρ_ h K_ = putK nt_ dst_ (.bool (wordB c.toNat)) ρ_ K_ := callQ_exact (by kernel_rfl) (by kernel_rfl) (isWordByte_h c h)
theorem drop_byte {s : ByteArray} {i : Nat} (h : i < s.size) : ∃ c l, s.toList.drop i = c :: l := by
  cases hl : s.toList.drop i with
  | nil => exact absurd h (byte_end hl)
  | cons c l => exact ⟨c, l, rfl⟩
theorem wordAt_h (s : ByteArray) (i : Nat) (hi : i ≤ s.size) (hs : s.size ≤ 100000) (h : Heap) : CallsH Try.prog 37 #[.string s, .int .i64 (i : Int)] h fun r h' => r = .returned (.string (s.extract i (i + wlen (s.toList.drop i)))) ∧ h' = h := by
  refine callsH_of_den ⟨Try.prog, 37, Try.f37, 23, [0, 1, 4, 5], _⟩ (args := [_, _]) Try.func37 rfl Try.ntmps37 (by simp) ?_
  simp only [argE_nil, argE_cons, ↓vmD, vmV, szS, Nat.zero_mul, Nat.reduceMul, List.toList_toArray, ↓reduceIte, Nat.reduceAdd, Nat.reduceSub, Nat.reduceEqDiff, Nat.reduceLT, Nat.reduceLeDiff, reduceCtorEq, Option.some.injEq, Prod.mk.injEq, Bool.false_eq_true, Bool.true_eq_false, and_self, and_true, true_and, and_false, false_and, or_false, or_true, false_or, true_or, Bool.and_self, Bool.and_true, Bool.true_and, Bool.false_and, Bool.and_false, Bool.false_or, Bool.or_false, Bool.true_or, Bool.or_true, Bool.not_true, Bool.not_false, not_false_eq_true, not_true_eq_false, ne_eq, decide_true, decide_false, decide_eq_true_eq, forall_const, List.cons_append, List.nil_append, List.length_cons, List.length_nil, List.size_toArray, List.setIfInBounds_toArray, List.set_cons_zero, List.set_cons_succ, List.getElem?_toArray, List.getElem?_cons_zero, List.getElem?_cons_succ, List.extract_toArray, List.extract_eq_take_drop, List.drop_zero, List.drop_succ_cons, List.drop_nil, List.take_zero, List.take_succ_cons, List.take_nil, Nat.zero_add, Nat.add_zero, Int.reduceToNat, Int.reduceLT, Int.reduceLE, Int.reduceEq, Int.reduceNeg, Int.reduceBEq, Int.reduceBNe, Array.size_push, Int.natCast_nonneg, Int.toNat_natCast, Int.cast_ofNat_Int, Option.map_some, Option.map_none, Int.le_refl, Int.toNat_zero, beq_false, beq_true, bne_self_eq_false, beq_self_eq_true, Bool.not_eq_false', beq_eq_false_iff_ne, String.reduceEq, Int.lt_irrefl, Nat.lt_irrefl, getP, getS, setP, setS, sizeS, Nat.left_eq_add, Nat.add_eq_left, Nat.add_right_cancel_iff, Nat.add_left_cancel_iff, Nat.lt_add_one, Nat.succ_ne_self, Nat.one_ne_zero,  nil_str, Option.isNone_some, Option.isNone_none, Option.isSome_some, Option.isSome_none, Bool.not_eq_true', decide_eq_false_iff_not, Bool.or_eq_true, Bool.and_eq_true, beq_iff_eq, bne_iff_ne, tyS, slIndexByte_p, indexByte_p, indexRune_p, containsRune_p, classOf_p, isWordByte_p]
  obtain ⟨e, he, h1, h2, h3⟩ : ∃ e : Nat, e = i ∧ i ≤ e ∧ e ≤ s.size ∧ i + wlen (s.toList.drop i) = e + wlen (s.toList.drop e) := ⟨i, rfl, by omega, hi, rfl⟩
  rw [show (5, some (Value.int .i64 (i : Int))) = (5, some (Value.int .i64 (e : Int))) by rw [he]]
  clear he
  generalize hl : s.toList.drop e = l at h3
  induction l generalizing e with
  | nil =>
    have hlt : ((e : Int) < (s.size : Int)) = False := by have := byte_end hl; simp; omega
    have hle : ((i : Int) ≤ (e : Int)) = True := by simp; omega
    have hle2 : ((e : Int) ≤ (s.size : Int)) = True := by simp; omega
    refine LoopAt.intro ?_
    simp only [argE_nil, argE_cons, ↓vmD, vmV, szS, Nat.zero_mul, Nat.reduceMul, List.toList_toArray, ↓reduceIte, Nat.reduceAdd, Nat.reduceSub, Nat.reduceEqDiff, Nat.reduceLT, Nat.reduceLeDiff, reduceCtorEq, Option.some.injEq, Prod.mk.injEq, Bool.false_eq_true, Bool.true_eq_false, and_self, and_true, true_and, and_false, false_and, or_false, or_true, false_or, true_or, Bool.and_self, Bool.and_true, Bool.true_and, Bool.false_and, Bool.and_false, Bool.false_or, Bool.or_false, Bool.true_or, Bool.or_true, Bool.not_true, Bool.not_false, not_false_eq_true, not_true_eq_false, ne_eq, decide_true, decide_false, decide_eq_true_eq, forall_const, List.cons_append, List.nil_append, List.length_cons, List.length_nil, List.size_toArray, List.setIfInBounds_toArray, List.set_cons_zero, List.set_cons_succ, List.getElem?_toArray, List.getElem?_cons_zero, List.getElem?_cons_succ, List.extract_toArray, List.extract_eq_take_drop, List.drop_zero, List.drop_succ_cons, List.drop_nil, List.take_zero, List.take_succ_cons, List.take_nil, Nat.zero_add, Nat.add_zero, Int.reduceToNat, Int.reduceLT, Int.reduceLE, Int.reduceEq, Int.reduceNeg, Int.reduceBEq, Int.reduceBNe, Array.size_push, Int.natCast_nonneg, Int.toNat_natCast, Int.cast_ofNat_Int, Option.map_some, Option.map_none, Int.le_refl, Int.toNat_zero, beq_false, beq_true, bne_self_eq_false, beq_self_eq_true, Bool.not_eq_false', beq_eq_false_iff_ne, String.reduceEq, Int.lt_irrefl, Nat.lt_irrefl, getP, getS, setP, setS, sizeS, Nat.left_eq_add, Nat.add_eq_left, Nat.add_right_cancel_iff, Nat.add_left_cancel_iff, Nat.lt_add_one, Nat.succ_ne_self, Nat.one_ne_zero,  nil_str, Option.isNone_some, Option.isNone_none, Option.isSome_some, Option.isSome_none, Bool.not_eq_true', decide_eq_false_iff_not, Bool.or_eq_true, Bool.and_eq_true, beq_iff_eq, bne_iff_ne, tyS, slIndexByte_p, indexByte_p, indexRune_p, containsRune_p, classOf_p, isWordByte_p, hlt, hle, hle2]
    rw [h3]
    rfl
  | cons c l ih =>
    obtain ⟨hp, hc, hl', hsl, hb⟩ := byte_at hl
    have hlt : ((e : Int) < (s.size : Int)) = True := by simp; omega
    have hle : ((i : Int) ≤ (e : Int)) = True := by simp; omega
    have hle2 : ((e : Int) ≤ (s.size : Int)) = True := by simp; omega
    have we : IntKind.i64.wrap ((e : Int) + 1) = ((e + 1 : Nat) : Int) := by rw [w_i64 (by omega) (by omega)]; omega
    refine LoopAt.intro ?_
    simp only [wlen] at h3
    cases hw : wordB c.toNat with
    | true =>
      rw [if_pos hw] at h3
      simp only [argE_nil, argE_cons, ↓vmD, vmV, szS, Nat.zero_mul, Nat.reduceMul, List.toList_toArray, ↓reduceIte, Nat.reduceAdd, Nat.reduceSub, Nat.reduceEqDiff, Nat.reduceLT, Nat.reduceLeDiff, reduceCtorEq, Option.some.injEq, Prod.mk.injEq, Bool.false_eq_true, Bool.true_eq_false, and_self, and_true, true_and, and_false, false_and, or_false, or_true, false_or, true_or, Bool.and_self, Bool.and_true, Bool.true_and, Bool.false_and, Bool.and_false, Bool.false_or, Bool.or_false, Bool.true_or, Bool.or_true, Bool.not_true, Bool.not_false, not_false_eq_true, not_true_eq_false, ne_eq, decide_true, decide_false, decide_eq_true_eq, forall_const, List.cons_append, List.nil_append, List.length_cons, List.length_nil, List.size_toArray, List.setIfInBounds_toArray, List.set_cons_zero, List.set_cons_succ, List.getElem?_toArray, List.getElem?_cons_zero, List.getElem?_cons_succ, List.extract_toArray, List.extract_eq_take_drop, List.drop_zero, List.drop_succ_cons, List.drop_nil, List.take_zero, List.take_succ_cons, List.take_nil, Nat.zero_add, Nat.add_zero, Int.reduceToNat, Int.reduceLT, Int.reduceLE, Int.reduceEq, Int.reduceNeg, Int.reduceBEq, Int.reduceBNe, Array.size_push, Int.natCast_nonneg, Int.toNat_natCast, Int.cast_ofNat_Int, Option.map_some, Option.map_none, Int.le_refl, Int.toNat_zero, beq_false, beq_true, bne_self_eq_false, beq_self_eq_true, Bool.not_eq_false', beq_eq_false_iff_ne, String.reduceEq, Int.lt_irrefl, Nat.lt_irrefl, getP, getS, setP, setS, sizeS, Nat.left_eq_add, Nat.add_eq_left, Nat.add_right_cancel_iff, Nat.add_left_cancel_iff, Nat.lt_add_one, Nat.succ_ne_self, Nat.one_ne_zero,  nil_str, Option.isNone_some, Option.isNone_none, Option.isSome_some, Option.isSome_none, Bool.not_eq_true', decide_eq_false_iff_not, Bool.or_eq_true, Bool.and_eq_true, beq_iff_eq, bne_iff_ne, tyS, slIndexByte_p, indexByte_p, indexRune_p, containsRune_p, classOf_p, isWordByte_p, hlt, hb, we, hw]
      exact LoopAt.weak (ih (e + 1) (by omega) (by omega) hl' (by omega)) (by simp only [subE, get_cons, Nat.reduceEqDiff, ↓reduceIte, reduceCtorEq, Nat.reduceAdd, and_self, and_true])
    | false =>
      rw [if_neg (by simp [hw])] at h3
      simp only [argE_nil, argE_cons, ↓vmD, vmV, szS, Nat.zero_mul, Nat.reduceMul, List.toList_toArray, ↓reduceIte, Nat.reduceAdd, Nat.reduceSub, Nat.reduceEqDiff, Nat.reduceLT, Nat.reduceLeDiff, reduceCtorEq, Option.some.injEq, Prod.mk.injEq, Bool.false_eq_true, Bool.true_eq_false, and_self, and_true, true_and, and_false, false_and, or_false, or_true, false_or, true_or, Bool.and_self, Bool.and_true, Bool.true_and, Bool.false_and, Bool.and_false, Bool.false_or, Bool.or_false, Bool.true_or, Bool.or_true, Bool.not_true, Bool.not_false, not_false_eq_true, not_true_eq_false, ne_eq, decide_true, decide_false, decide_eq_true_eq, forall_const, List.cons_append, List.nil_append, List.length_cons, List.length_nil, List.size_toArray, List.setIfInBounds_toArray, List.set_cons_zero, List.set_cons_succ, List.getElem?_toArray, List.getElem?_cons_zero, List.getElem?_cons_succ, List.extract_toArray, List.extract_eq_take_drop, List.drop_zero, List.drop_succ_cons, List.drop_nil, List.take_zero, List.take_succ_cons, List.take_nil, Nat.zero_add, Nat.add_zero, Int.reduceToNat, Int.reduceLT, Int.reduceLE, Int.reduceEq, Int.reduceNeg, Int.reduceBEq, Int.reduceBNe, Array.size_push, Int.natCast_nonneg, Int.toNat_natCast, Int.cast_ofNat_Int, Option.map_some, Option.map_none, Int.le_refl, Int.toNat_zero, beq_false, beq_true, bne_self_eq_false, beq_self_eq_true, Bool.not_eq_false', beq_eq_false_iff_ne, String.reduceEq, Int.lt_irrefl, Nat.lt_irrefl, getP, getS, setP, setS, sizeS, Nat.left_eq_add, Nat.add_eq_left, Nat.add_right_cancel_iff, Nat.add_left_cancel_iff, Nat.lt_add_one, Nat.succ_ne_self, Nat.one_ne_zero,  nil_str, Option.isNone_some, Option.isNone_none, Option.isSome_some, Option.isSome_none, Bool.not_eq_true', decide_eq_false_iff_not, Bool.or_eq_true, Bool.and_eq_true, beq_iff_eq, bne_iff_ne, tyS, slIndexByte_p, indexByte_p, indexRune_p, containsRune_p, classOf_p, isWordByte_p, hlt, hb, we, hw, hle, hle2]
      rw [h3]
      rfl
theorem wordAt_p (s : ByteArray) (i : Nat) (hi : i ≤ s.size) (hs : s.size ≤ 100000) (h : Heap) (Q : Ending → Heap → Prop) : CallsX Try.prog 37 #[.string s, .int .i64 (i : Int)] h Q = Q (.returned (.string (s.extract i (i + wlen (s.toList.drop i))))) (h) := CallsX.exact (by kernel_rfl) (wordAt_h s i hi hs h)
theorem wordAt_q (s : ByteArray) (i : Nat) (hi : i ≤ s.size) (hs : s.size ≤ 100000) (h : Heap) (nt_ : Nat) (dst_ : Option Nat) (ρ_ : Env) (K_ : Env → Prop) : callQ Try.prog nt_ dst_ (.func (.func 37) #[] #[]) [.string s, .int .i64 (i : Int)] ρ_ h K_ = putK nt_ dst_ (.string (s.extract i (i + wlen (s.toList.drop i)))) ρ_ K_ := callQ_exact (by kernel_rfl) (by kernel_rfl) (wordAt_h s i hi hs h)
theorem i95 (c : Nat) : ((c : Int) == 95) = decide (c = 95) := by rw [Bool.eq_iff_iff]; simp; omega
theorem i_eq (c k : Nat) : ((c : Int) == (k : Int)) = decide (c = k) := by rw [Bool.eq_iff_iff]; simp only [beq_iff_eq, decide_eq_true_eq]; omega
theorem ext_size (s : ByteArray) (i k : Nat) (h : i + k ≤ s.size) : (s.extract i (i + k)).size = k := by simp; omega
def nameF (s : ByteArray) : Bool := decide (0 < s.size) && (decide (s.size ≤ 16) && ((match s.toList with | c :: _ => letterB c.toNat | [] => false) && decide (wlen s.toList = s.size)))
theorem toList_nil {s : ByteArray} (h : s.size = 0) : s.toList = [] := by
  have := size_list s
  rw [h] at this
  exact List.eq_nil_of_length_eq_zero this
theorem cls_letter : ∀ c, c < 256 → (clsF c = 2 ∧ letterB c = true) ∨ (clsF c ≠ 2 ∧ letterB c = false) := by decide +kernel
theorem str_nil (s : ByteArray) : (s.toList == []) = decide (s.size = 0) := by
  rw [Bool.eq_iff_iff]
  simp only [beq_iff_eq, decide_eq_true_eq]
  constructor
  · intro h; rw [← size_list, h]; rfl
  · exact toList_nil
theorem isName_h (s : ByteArray) (hs : s.size ≤ 100000) (h : Heap) : CallsH Try.prog 29 #[.string s] h fun r h' => r = .returned (.bool (nameF s)) ∧ h' = h := by
  refine callsH_of_den ⟨Try.prog, 29, Try.f29, 23, [0, 2], _⟩ (args := [_]) Try.func29 rfl Try.ntmps29 (by simp) ?_
  by_cases h0 : s.size = 0
  · have e0 : (s.toList = []) = True := by simp [toList_nil h0]
    simp only [argE_nil, argE_cons, ↓vmD, vmV, szS, Nat.zero_mul, Nat.reduceMul, List.toList_toArray, ↓reduceIte, Nat.reduceAdd, Nat.reduceSub, Nat.reduceEqDiff, Nat.reduceLT, Nat.reduceLeDiff, reduceCtorEq, Option.some.injEq, Prod.mk.injEq, Bool.false_eq_true, Bool.true_eq_false, and_self, and_true, true_and, and_false, false_and, or_false, or_true, false_or, true_or, Bool.and_self, Bool.and_true, Bool.true_and, Bool.false_and, Bool.and_false, Bool.false_or, Bool.or_false, Bool.true_or, Bool.or_true, Bool.not_true, Bool.not_false, not_false_eq_true, not_true_eq_false, ne_eq, decide_true, decide_false, decide_eq_true_eq, forall_const, List.cons_append, List.nil_append, List.length_cons, List.length_nil, List.size_toArray, List.setIfInBounds_toArray, List.set_cons_zero, List.set_cons_succ, List.getElem?_toArray, List.getElem?_cons_zero, List.getElem?_cons_succ, List.extract_toArray, List.extract_eq_take_drop, List.drop_zero, List.drop_succ_cons, List.drop_nil, List.take_zero, List.take_succ_cons, List.take_nil, Nat.zero_add, Nat.add_zero, Int.reduceToNat, Int.reduceLT, Int.reduceLE, Int.reduceEq, Int.reduceNeg, Int.reduceBEq, Int.reduceBNe, Array.size_push, Int.natCast_nonneg, Int.toNat_natCast, Int.cast_ofNat_Int, Option.map_some, Option.map_none, Int.le_refl, Int.toNat_zero, beq_false, beq_true, bne_self_eq_false, beq_self_eq_true, Bool.not_eq_false', beq_eq_false_iff_ne, String.reduceEq, Int.lt_irrefl, Nat.lt_irrefl, getP, getS, setP, setS, sizeS, Nat.left_eq_add, Nat.add_eq_left, Nat.add_right_cancel_iff, Nat.add_left_cancel_iff, Nat.lt_add_one, Nat.succ_ne_self, Nat.one_ne_zero,  nil_str, Option.isNone_some, Option.isNone_none, Option.isSome_some, Option.isSome_none, Bool.not_eq_true', decide_eq_false_iff_not, Bool.or_eq_true, Bool.and_eq_true, beq_iff_eq, bne_iff_ne, tyS, slIndexByte_p, indexByte_p, indexRune_p, containsRune_p, classOf_p, isWordByte_p, wordAt_p, e0, toList_nil h0]
    simp [nameF, h0]
  have e0 : (s.toList = []) = False := by simp; intro h; have := size_list s; rw [h] at this; simp at this; omega
  obtain ⟨c, l, hl⟩ := drop_byte (s := s) (i := 0) (by omega)
  obtain ⟨hp, hc, hl', hsl, hb⟩ := byte_at hl
  have hcl := u8_lt c
  have w32 : IntKind.i32.wrap (c.toNat : Int) = c.toNat := w_i32 (by omega) (by omega)
  rw [List.drop_zero] at hl
  have hw := wlen_le s.toList
  rw [size_list] at hw
  have hx := ext_size s 0 (wlen s.toList) (by omega)
  rw [Nat.zero_add] at hx
  have wa : ∀ h Q, CallsX Try.prog 37 #[.string s, .int .i64 0] h Q = Q (.returned (.string (s.extract 0 (wlen s.toList)))) h := fun h Q => by
    have e := wordAt_p s 0 (by omega) hs h Q
    simp only [List.drop_zero, Nat.zero_add] at e
    exact e
  by_cases h16 : (16 : Int) < (s.size : Int)
  · simp only [argE_nil, argE_cons, ↓vmD, vmV, szS, Nat.zero_mul, Nat.reduceMul, List.toList_toArray, ↓reduceIte, Nat.reduceAdd, Nat.reduceSub, Nat.reduceEqDiff, Nat.reduceLT, Nat.reduceLeDiff, reduceCtorEq, Option.some.injEq, Prod.mk.injEq, Bool.false_eq_true, Bool.true_eq_false, and_self, and_true, true_and, and_false, false_and, or_false, or_true, false_or, true_or, Bool.and_self, Bool.and_true, Bool.true_and, Bool.false_and, Bool.and_false, Bool.false_or, Bool.or_false, Bool.true_or, Bool.or_true, Bool.not_true, Bool.not_false, not_false_eq_true, not_true_eq_false, ne_eq, decide_true, decide_false, decide_eq_true_eq, forall_const, List.cons_append, List.nil_append, List.length_cons, List.length_nil, List.size_toArray, List.setIfInBounds_toArray, List.set_cons_zero, List.set_cons_succ, List.getElem?_toArray, List.getElem?_cons_zero, List.getElem?_cons_succ, List.extract_toArray, List.extract_eq_take_drop, List.drop_zero, List.drop_succ_cons, List.drop_nil, List.take_zero, List.take_succ_cons, List.take_nil, Nat.zero_add, Nat.add_zero, Int.reduceToNat, Int.reduceLT, Int.reduceLE, Int.reduceEq, Int.reduceNeg, Int.reduceBEq, Int.reduceBNe, Array.size_push, Int.natCast_nonneg, Int.toNat_natCast, Int.cast_ofNat_Int, Option.map_some, Option.map_none, Int.le_refl, Int.toNat_zero, beq_false, beq_true, bne_self_eq_false, beq_self_eq_true, Bool.not_eq_false', beq_eq_false_iff_ne, String.reduceEq, Int.lt_irrefl, Nat.lt_irrefl, getP, getS, setP, setS, sizeS, Nat.left_eq_add, Nat.add_eq_left, Nat.add_right_cancel_iff, Nat.add_left_cancel_iff, Nat.lt_add_one, Nat.succ_ne_self, Nat.one_ne_zero,  nil_str, Option.isNone_some, Option.isNone_none, Option.isSome_some, Option.isSome_none, Bool.not_eq_true', decide_eq_false_iff_not, Bool.or_eq_true, Bool.and_eq_true, beq_iff_eq, bne_iff_ne, tyS, slIndexByte_p, indexByte_p, indexRune_p, containsRune_p, classOf_p, isWordByte_p, wordAt_p, e0, h16]
    have : ¬ s.size ≤ 16 := by omega
    simp [nameF, this]
  rcases cls_letter c.toNat hcl with ⟨k1, k2⟩ | ⟨k1, k2⟩
  · simp only [argE_nil, argE_cons, ↓vmD, vmV, szS, Nat.zero_mul, Nat.reduceMul, List.toList_toArray, ↓reduceIte, Nat.reduceAdd, Nat.reduceSub, Nat.reduceEqDiff, Nat.reduceLT, Nat.reduceLeDiff, reduceCtorEq, Option.some.injEq, Prod.mk.injEq, Bool.false_eq_true, Bool.true_eq_false, and_self, and_true, true_and, and_false, false_and, or_false, or_true, false_or, true_or, Bool.and_self, Bool.and_true, Bool.true_and, Bool.false_and, Bool.and_false, Bool.false_or, Bool.or_false, Bool.true_or, Bool.or_true, Bool.not_true, Bool.not_false, not_false_eq_true, not_true_eq_false, ne_eq, decide_true, decide_false, decide_eq_true_eq, forall_const, List.cons_append, List.nil_append, List.length_cons, List.length_nil, List.size_toArray, List.setIfInBounds_toArray, List.set_cons_zero, List.set_cons_succ, List.getElem?_toArray, List.getElem?_cons_zero, List.getElem?_cons_succ, List.extract_toArray, List.extract_eq_take_drop, List.drop_zero, List.drop_succ_cons, List.drop_nil, List.take_zero, List.take_succ_cons, List.take_nil, Nat.zero_add, Nat.add_zero, Int.reduceToNat, Int.reduceLT, Int.reduceLE, Int.reduceEq, Int.reduceNeg, Int.reduceBEq, Int.reduceBNe, Array.size_push, Int.natCast_nonneg, Int.toNat_natCast, Int.cast_ofNat_Int, Option.map_some, Option.map_none, Int.le_refl, Int.toNat_zero, beq_false, beq_true, bne_self_eq_false, beq_self_eq_true, Bool.not_eq_false', beq_eq_false_iff_ne, String.reduceEq, Int.lt_irrefl, Nat.lt_irrefl, getP, getS, setP, setS, sizeS, Nat.left_eq_add, Nat.add_eq_left, Nat.add_right_cancel_iff, Nat.add_left_cancel_iff, Nat.lt_add_one, Nat.succ_ne_self, Nat.one_ne_zero,  nil_str, Option.isNone_some, Option.isNone_none, Option.isSome_some, Option.isSome_none, Bool.not_eq_true', decide_eq_false_iff_not, Bool.or_eq_true, Bool.and_eq_true, beq_iff_eq, bne_iff_ne, tyS, slIndexByte_p, indexByte_p, indexRune_p, containsRune_p, classOf_p, isWordByte_p, wordAt_p, e0, h16, hb, w32, hcl, k1, wa, hx]
    have h1 : s.size ≤ 16 := by omega
    have h2 : 0 < s.size := by omega
    rw [i_eq]
    simp only [nameF, h1, h2, decide_true, Bool.true_and]
    rw [hl]
    simp only [k2, Bool.true_and]
  · simp only [argE_nil, argE_cons, ↓vmD, vmV, szS, Nat.zero_mul, Nat.reduceMul, List.toList_toArray, ↓reduceIte, Nat.reduceAdd, Nat.reduceSub, Nat.reduceEqDiff, Nat.reduceLT, Nat.reduceLeDiff, reduceCtorEq, Option.some.injEq, Prod.mk.injEq, Bool.false_eq_true, Bool.true_eq_false, and_self, and_true, true_and, and_false, false_and, or_false, or_true, false_or, true_or, Bool.and_self, Bool.and_true, Bool.true_and, Bool.false_and, Bool.and_false, Bool.false_or, Bool.or_false, Bool.true_or, Bool.or_true, Bool.not_true, Bool.not_false, not_false_eq_true, not_true_eq_false, ne_eq, decide_true, decide_false, decide_eq_true_eq, forall_const, List.cons_append, List.nil_append, List.length_cons, List.length_nil, List.size_toArray, List.setIfInBounds_toArray, List.set_cons_zero, List.set_cons_succ, List.getElem?_toArray, List.getElem?_cons_zero, List.getElem?_cons_succ, List.extract_toArray, List.extract_eq_take_drop, List.drop_zero, List.drop_succ_cons, List.drop_nil, List.take_zero, List.take_succ_cons, List.take_nil, Nat.zero_add, Nat.add_zero, Int.reduceToNat, Int.reduceLT, Int.reduceLE, Int.reduceEq, Int.reduceNeg, Int.reduceBEq, Int.reduceBNe, Array.size_push, Int.natCast_nonneg, Int.toNat_natCast, Int.cast_ofNat_Int, Option.map_some, Option.map_none, Int.le_refl, Int.toNat_zero, beq_false, beq_true, bne_self_eq_false, beq_self_eq_true, Bool.not_eq_false', beq_eq_false_iff_ne, String.reduceEq, Int.lt_irrefl, Nat.lt_irrefl, getP, getS, setP, setS, sizeS, Nat.left_eq_add, Nat.add_eq_left, Nat.add_right_cancel_iff, Nat.add_left_cancel_iff, Nat.lt_add_one, Nat.succ_ne_self, Nat.one_ne_zero,  nil_str, Option.isNone_some, Option.isNone_none, Option.isSome_some, Option.isSome_none, Bool.not_eq_true', decide_eq_false_iff_not, Bool.or_eq_true, Bool.and_eq_true, beq_iff_eq, bne_iff_ne, tyS, slIndexByte_p, indexByte_p, indexRune_p, containsRune_p, classOf_p, isWordByte_p, wordAt_p, e0, h16, hb, w32, hcl, k1]
    simp only [nameF]
    rw [hl]
    simp [k2]
theorem isName_p (s : ByteArray) (hs : s.size ≤ 100000) (h : Heap) (Q : Ending → Heap → Prop) : CallsX Try.prog 29 #[.string s] h Q = Q (.returned (.bool (nameF s))) (h) := CallsX.exact (by kernel_rfl) (isName_h s hs h)
theorem isName_q (s : ByteArray) (hs : s.size ≤ 100000) (h : Heap) (nt_ : Nat) (dst_ : Option Nat) (ρ_ : Env) (K_ : Env → Prop) : callQ Try.prog nt_ dst_ (.func (.func 29) #[] #[]) [.string s] ρ_ h K_ = putK nt_ dst_ (.bool (nameF s)) ρ_ K_ := callQ_exact (by kernel_rfl) (by kernel_rfl) (isName_h s hs h)
end Go.Proofs.Ytkkpmcomloekoaa
