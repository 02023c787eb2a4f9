/-
Words and names.
Conditions: none.
-/
import Derived.Test.YtmjkjpjjckcihaaLexB
namespace Go.Proofs.Ytmjkjpjjckcihaa
open Go.Vm
set_option linter.unusedSimpArgs false
set_option linter.unusedVariables false
set_option maxHeartbeats 1000000
set_option maxRecDepth 20000

theorem byte_at {s : ByteArray} {pos : Nat} {c : UInt8} {l : List UInt8} (h : s.toList.drop pos = c :: l) : ∃ hp : pos < s.size, s[pos]'hp = c ∧ s.toList.drop (pos + 1) = l ∧ s.size = pos + 1 + l.length ∧ s.data[pos]? = some c := by
  have hn : s.size = s.data.toList.length := rfl
  rw [ByteArray.toList_eq] at h ⊢
  have hlen : (s.data.toList.drop pos).length = l.length + 1 := by rw [h]; rfl
  have hl2 := hlen
  rw [List.length_drop, ← hn] at hl2
  have hp : pos < s.size := by omega
  have h1 := List.drop_eq_getElem_cons (l := s.data.toList) (i := pos) (by omega)
  rw [h] at h1
  simp only [List.cons.injEq] at h1
  refine ⟨hp, ?_, h1.2.symm, by omega, ?_⟩
  · rw [h1.1]; rfl
  · rw [h1.1]; simp
theorem byte_end {s : ByteArray} {pos : Nat} (h : s.toList.drop pos = []) : ¬ pos < s.size := by
  have hn : s.size = s.data.toList.length := rfl
  rw [ByteArray.toList_eq] at h
  have := congrArg List.length h
  rw [List.length_drop, ← hn] at this
  simp only [List.length_nil] at this
  omega
theorem size_list (s : ByteArray) : s.toList.length = s.size := by rw [ByteArray.toList_eq]; rfl
def wlen : List UInt8 → Nat
  | [] => 0
  | c :: l => if wordB c.toNat = true then wlen l + 1 else 0
def skN : Bool → List UInt8 → Nat
  | _, [] => 0
  | r, c :: l => if (r || (blankB c.toNat || decide (c.toNat = 35))) = true then skN ((r || decide (c.toNat = 35)) && !decide (c.toNat = 10)) l + 1 else 0
theorem wlen_le : ∀ l : List UInt8, wlen l ≤ l.length
  | [] => Nat.le_refl _
  | c :: l => by
    have := wlen_le l
    simp only [wlen, List.length_cons]
    split <;> omega
theorem skN_le : ∀ (r : Bool) (l : List UInt8), skN r l ≤ l.length
  | _, [] => Nat.le_refl _
  | r, c :: l => by
    have := skN_le ((r || decide (c.toNat = 35)) && !decide (c.toNat = 10)) l
    simp only [skN, List.length_cons]
    split <;> omega
theorem u8_lt (c : UInt8) : c.toNat < 256 := c.toNat_lt
theorem cls_word : ∀ c, c < 256 → (clsF c == 2 || clsF c == 3 || clsF c == 4) = wordB c := by decide +kernel
theorem letter_int (c : Nat) : (decide ((97 : Int) ≤ (c : Int)) && decide ((c : Int) ≤ 122) || decide ((65 : Int) ≤ (c : Int)) && decide ((c : Int) ≤ 90)) = letterB c := by
  rw [Bool.eq_iff_iff]; simp [letterB]; omega
theorem digit_int (c : Nat) : (decide ((48 : Int) ≤ (c : Int)) && decide ((c : Int) ≤ 57)) = digitB c := by
  rw [Bool.eq_iff_iff]; simp [digitB]; omega
theorem isWordByte_h (c : UInt8) (h : Heap) : CallsH Try.prog 49 #[.int .u8 (c.toNat : Int)] h fun r h' => r = .returned (.bool (wordB c.toNat)) ∧ h' = h := by
  refine callsH_of_den ⟨Try.prog, 49, Try.f49, 17, [0, 2, 3], _⟩ (args := [_]) Try.func49 rfl Try.ntmps49 (by simp) ?_
  have hc := u8_lt c
  have hw : IntKind.i32.wrap (c.toNat : Int) = c.toNat := w_i32 (by omega) (by omega)
  simp only [argE_nil, argE_cons, ↓vmD, vmV, vmStd, Nat.reduceMul, ↓reduceIte, Nat.reduceAdd, Nat.reduceSub, Nat.reduceEqDiff, Nat.reduceLT, Nat.reduceLeDiff, reduceCtorEq, Int.reduceToNat, Int.reduceLT, Int.reduceLE, Int.reduceEq, Int.reduceNeg, Int.reduceBEq, Int.reduceBNe, String.reduceEq, forall_const, tyS, slIndexByte_p, indexByte_p, indexRune_p, containsRune_p, classOf_p, hw, hc]
  rw [cls_word c.toNat hc]
theorem isWordByte_p (c : UInt8) (h : Heap) (Q : Ending → Heap → Prop) : CallsX Try.prog 49 #[.int .u8 (c.toNat : Int)] h Q = Q (.returned (.bool (wordB c.toNat))) (h) := CallsX.exact (by kernel_rfl) (isWordByte_h c h)
theorem isWordByte_q (c : UInt8) (h : Heap) (nt_ : Nat) (dst_ : Option Nat) (ρ_ : Env) (K_ : Env → Prop) : callQ Try.prog nt_ dst_ (.func (.func 49) #[] #[]) [.int .u8 (c.toNat : Int)] ρ_ h K_ = putK nt_ dst_ (.bool (wordB c.toNat)) ρ_ K_ := callQ_exact (by kernel_rfl) (by kernel_rfl) (isWordByte_h c h)
theorem isWordByte_v (c : UInt8) (A_ : AH) : valA Try.prog 49 #[.int .u8 (c.toNat : Int)] A_ = some (.bool (wordB c.toNat)) := pureA_e (by kernel_rfl) (by kernel_rfl) (fun h => isWordByte_h c h)
theorem letter_h (c : UInt8) (h : Heap) : CallsH Try.prog 40 #[.int .u8 (c.toNat : Int)] h fun r h' => r = .returned (.bool (letterB c.toNat)) ∧ h' = h := by
  refine callsH_of_den ⟨Try.prog, 40, Try.f40, 17, [0, 2], _⟩ (args := [_]) Try.func40 rfl Try.ntmps40 (by simp) ?_
  simp only [argE_nil, argE_cons, ↓vmD, vmV, vmStd, Nat.reduceMul, ↓reduceIte, Nat.reduceAdd, Nat.reduceSub, Nat.reduceEqDiff, Nat.reduceLT, Nat.reduceLeDiff, reduceCtorEq, Int.reduceToNat, Int.reduceLT, Int.reduceLE, Int.reduceEq, Int.reduceNeg, Int.reduceBEq, Int.reduceBNe, String.reduceEq, forall_const, tyS, slIndexByte_p, indexByte_p, indexRune_p, containsRune_p, classOf_p, isWordByte_p]
  rw [letter_int]
theorem letter_p (c : UInt8) (h : Heap) (Q : Ending → Heap → Prop) : CallsX Try.prog 40 #[.int .u8 (c.toNat : Int)] h Q = Q (.returned (.bool (letterB c.toNat))) (h) := CallsX.exact (by kernel_rfl) (letter_h c h)
theorem letter_q (c : UInt8) (h : Heap) (nt_ : Nat) (dst_ : Option Nat) (ρ_ : Env) (K_ : Env → Prop) : callQ Try.prog nt_ dst_ (.func (.func 40) #[] #[]) [.int .u8 (c.toNat : Int)] ρ_ h K_ = putK nt_ dst_ (.bool (letterB c.toNat)) ρ_ K_ := callQ_exact (by kernel_rfl) (by kernel_rfl) (letter_h c h)
theorem letter_v (c : UInt8) (A_ : AH) : valA Try.prog 40 #[.int .u8 (c.toNat : Int)] A_ = some (.bool (letterB c.toNat)) := pureA_e (by kernel_rfl) (by kernel_rfl) (fun h => letter_h c h)
theorem digit_h (c : UInt8) (h : Heap) : CallsH Try.prog 50 #[.int .u8 (c.toNat : Int)] h fun r h' => r = .returned (.bool (digitB c.toNat)) ∧ h' = h := by
  refine callsH_of_den ⟨Try.prog, 50, Try.f50, 9, [0, 2], _⟩ (args := [_]) Try.func50 rfl Try.ntmps50 (by simp) ?_
  simp only [argE_nil, argE_cons, ↓vmD, vmV, vmStd, Nat.reduceMul, ↓reduceIte, Nat.reduceAdd, Nat.reduceSub, Nat.reduceEqDiff, Nat.reduceLT, Nat.reduceLeDiff, reduceCtorEq, Int.reduceToNat, Int.reduceLT, Int.reduceLE, Int.reduceEq, Int.reduceNeg, Int.reduceBEq, Int.reduceBNe, String.reduceEq, forall_const, tyS, slIndexByte_p, indexByte_p, indexRune_p, containsRune_p, classOf_p, isWordByte_p, letter_p]
  rw [digit_int]
theorem digit_p (c : UInt8) (h : Heap) (Q : Ending → Heap → Prop) : CallsX Try.prog 50 #[.int .u8 (c.toNat : Int)] h Q = Q (.returned (.bool (digitB c.toNat))) (h) := CallsX.exact (by kernel_rfl) (digit_h c h)
theorem digit_q (c : UInt8) (h : Heap) (nt_ : Nat) (dst_ : Option Nat) (ρ_ : Env) (K_ : Env → Prop) : callQ Try.prog nt_ dst_ (.func (.func 50) #[] #[]) [.int .u8 (c.toNat : Int)] ρ_ h K_ = putK nt_ dst_ (.bool (digitB c.toNat)) ρ_ K_ := callQ_exact (by kernel_rfl) (by kernel_rfl) (digit_h c h)
theorem digit_v (c : UInt8) (A_ : AH) : valA Try.prog 50 #[.int .u8 (c.toNat : Int)] A_ = some (.bool (digitB c.toNat)) := pureA_e (by kernel_rfl) (by kernel_rfl) (fun h => digit_h c h)
theorem drop_byte {s : ByteArray} {i : Nat} (h : i < s.size) : ∃ c l, s.toList.drop i = c :: l := by
  cases hl : s.toList.drop i with
  | nil => exact absurd h (byte_end hl)
  | cons c l => exact ⟨c, l, rfl⟩
theorem wordAt_h (s : ByteArray) (i : Nat) (hi : i ≤ s.size) (hs : s.size ≤ 100000) (h : Heap) : CallsH Try.prog 39 #[.string s, .int .i64 (i : Int)] h fun r h' => r = .returned (.string (s.extract i (i + wlen (s.toList.drop i)))) ∧ h' = h := by
  refine callsH_of_den ⟨Try.prog, 39, Try.f39, 23, [0, 1, 4, 5], _⟩ (args := [_, _]) Try.func39 rfl Try.ntmps39 (by simp) ?_
  simp only [argE_nil, argE_cons, ↓vmD, vmV, vmStd, Nat.reduceMul, ↓reduceIte, Nat.reduceAdd, Nat.reduceSub, Nat.reduceEqDiff, Nat.reduceLT, Nat.reduceLeDiff, reduceCtorEq, Int.reduceToNat, Int.reduceLT, Int.reduceLE, Int.reduceEq, Int.reduceNeg, Int.reduceBEq, Int.reduceBNe, String.reduceEq, forall_const, tyS, slIndexByte_p, indexByte_p, indexRune_p, containsRune_p, classOf_p, isWordByte_p, letter_p, digit_p]
  obtain ⟨e, he, h1, h2, h3⟩ : ∃ e : Nat, e = i ∧ i ≤ e ∧ e ≤ s.size ∧ i + wlen (s.toList.drop i) = e + wlen (s.toList.drop e) := ⟨i, rfl, by omega, hi, rfl⟩
  rw [show (5, some (Value.int .i64 (i : Int))) = (5, some (Value.int .i64 (e : Int))) by rw [he]]
  clear he
  generalize hl : s.toList.drop e = l at h3
  induction l generalizing e with
  | nil =>
    have hlt : ((e : Int) < (s.size : Int)) = False := by have := byte_end hl; simp; omega
    have hle : ((i : Int) ≤ (e : Int)) = True := by simp; omega
    have hle2 : ((e : Int) ≤ (s.size : Int)) = True := by simp; omega
    refine LoopAt.intro ?_
    simp only [argE_nil, argE_cons, ↓vmD, vmV, vmStd, Nat.reduceMul, ↓reduceIte, Nat.reduceAdd, Nat.reduceSub, Nat.reduceEqDiff, Nat.reduceLT, Nat.reduceLeDiff, reduceCtorEq, Int.reduceToNat, Int.reduceLT, Int.reduceLE, Int.reduceEq, Int.reduceNeg, Int.reduceBEq, Int.reduceBNe, String.reduceEq, forall_const, tyS, slIndexByte_p, indexByte_p, indexRune_p, containsRune_p, classOf_p, isWordByte_p, letter_p, digit_p, hlt, hle, hle2]
    rw [h3]
    rfl
  | cons c l ih =>
    obtain ⟨hp, hc, hl', hsl, hb⟩ := byte_at hl
    have hlt : ((e : Int) < (s.size : Int)) = True := by simp; omega
    have hle : ((i : Int) ≤ (e : Int)) = True := by simp; omega
    have hle2 : ((e : Int) ≤ (s.size : Int)) = True := by simp; omega
    have we : IntKind.i64.wrap ((e : Int) + 1) = ((e + 1 : Nat) : Int) := by rw [w_i64 (by omega) (by omega)]; omega
    refine LoopAt.intro ?_
    simp only [wlen] at h3
    cases hw : wordB c.toNat with
    | true =>
      rw [if_pos hw] at h3
      simp only [argE_nil, argE_cons, ↓vmD, vmV, vmStd, Nat.reduceMul, ↓reduceIte, Nat.reduceAdd, Nat.reduceSub, Nat.reduceEqDiff, Nat.reduceLT, Nat.reduceLeDiff, reduceCtorEq, Int.reduceToNat, Int.reduceLT, Int.reduceLE, Int.reduceEq, Int.reduceNeg, Int.reduceBEq, Int.reduceBNe, String.reduceEq, forall_const, tyS, slIndexByte_p, indexByte_p, indexRune_p, containsRune_p, classOf_p, isWordByte_p, letter_p, digit_p, hlt, hb, we, hw]
      exact LoopAt.weak (ih (e + 1) (by omega) (by omega) hl' (by omega)) (by simp only [subE, get_cons, Nat.reduceEqDiff, ↓reduceIte, reduceCtorEq, Nat.reduceAdd, and_self, and_true])
    | false =>
      rw [if_neg (by simp [hw])] at h3
      simp only [argE_nil, argE_cons, ↓vmD, vmV, vmStd, Nat.reduceMul, ↓reduceIte, Nat.reduceAdd, Nat.reduceSub, Nat.reduceEqDiff, Nat.reduceLT, Nat.reduceLeDiff, reduceCtorEq, Int.reduceToNat, Int.reduceLT, Int.reduceLE, Int.reduceEq, Int.reduceNeg, Int.reduceBEq, Int.reduceBNe, String.reduceEq, forall_const, tyS, slIndexByte_p, indexByte_p, indexRune_p, containsRune_p, classOf_p, isWordByte_p, letter_p, digit_p, hlt, hb, we, hw, hle, hle2]
      rw [h3]
      rfl
theorem wordAt_p (s : ByteArray) (i : Nat) (hi : i ≤ s.size) (hs : s.size ≤ 100000) (h : Heap) (Q : Ending → Heap → Prop) : CallsX Try.prog 39 #[.string s, .int .i64 (i : Int)] h Q = Q (.returned (.string (s.extract i (i + wlen (s.toList.drop i))))) (h) := CallsX.exact (by kernel_rfl) (wordAt_h s i hi hs h)
theorem wordAt_q (s : ByteArray) (i : Nat) (hi : i ≤ s.size) (hs : s.size ≤ 100000) (h : Heap) (nt_ : Nat) (dst_ : Option Nat) (ρ_ : Env) (K_ : Env → Prop) : callQ Try.prog nt_ dst_ (.func (.func 39) #[] #[]) [.string s, .int .i64 (i : Int)] ρ_ h K_ = putK nt_ dst_ (.string (s.extract i (i + wlen (s.toList.drop i)))) ρ_ K_ := callQ_exact (by kernel_rfl) (by kernel_rfl) (wordAt_h s i hi hs h)
theorem wordAt_v (s : ByteArray) (i : Nat) (hi : i ≤ s.size) (hs : s.size ≤ 100000) (A_ : AH) : valA Try.prog 39 #[.string s, .int .i64 (i : Int)] A_ = some (.string (s.extract i (i + wlen (s.toList.drop i)))) := pureA_e (by kernel_rfl) (by kernel_rfl) (fun h => wordAt_h s i hi hs h)
theorem i95 (c : Nat) : ((c : Int) == 95) = decide (c = 95) := by rw [Bool.eq_iff_iff]; simp; omega
theorem rword_h (s : ByteArray) (i : Nat) (hi : i ≤ s.size) (hs : s.size ≤ 100000) (h : Heap) : CallsH Try.prog 41 #[.string s, .int .i64 (i : Int)] h fun r h' => r = .returned (.int .i64 ((i + wlen (s.toList.drop i) : Nat) : Int)) ∧ h' = h := by
  refine callsH_of_den ⟨Try.prog, 41, Try.f41, 30, [0, 1, 4], _⟩ (args := [_, _]) Try.func41 rfl Try.ntmps41 (by simp) ?_
  simp only [argE_nil, argE_cons, ↓vmD, vmV, vmStd, Nat.reduceMul, ↓reduceIte, Nat.reduceAdd, Nat.reduceSub, Nat.reduceEqDiff, Nat.reduceLT, Nat.reduceLeDiff, reduceCtorEq, Int.reduceToNat, Int.reduceLT, Int.reduceLE, Int.reduceEq, Int.reduceNeg, Int.reduceBEq, Int.reduceBNe, String.reduceEq, forall_const, tyS, slIndexByte_p, indexByte_p, indexRune_p, containsRune_p, classOf_p, isWordByte_p, letter_p, digit_p, wordAt_p]
  obtain ⟨e, he, h1, h2, h3⟩ : ∃ e : Nat, e = i ∧ i ≤ e ∧ e ≤ s.size ∧ i + wlen (s.toList.drop i) = e + wlen (s.toList.drop e) := ⟨i, rfl, by omega, hi, rfl⟩
  rw [show (1, some (Value.int .i64 (i : Int))) = (1, some (Value.int .i64 (e : Int))) by rw [he]]
  clear he
  generalize hl : s.toList.drop e = l at h3
  induction l generalizing e with
  | nil =>
    have hlt : ((e : Int) < (s.size : Int)) = False := by have := byte_end hl; simp; omega
    refine LoopAt.intro ?_
    simp only [argE_nil, argE_cons, ↓vmD, vmV, vmStd, Nat.reduceMul, ↓reduceIte, Nat.reduceAdd, Nat.reduceSub, Nat.reduceEqDiff, Nat.reduceLT, Nat.reduceLeDiff, reduceCtorEq, Int.reduceToNat, Int.reduceLT, Int.reduceLE, Int.reduceEq, Int.reduceNeg, Int.reduceBEq, Int.reduceBNe, String.reduceEq, forall_const, tyS, slIndexByte_p, indexByte_p, indexRune_p, containsRune_p, classOf_p, isWordByte_p, letter_p, digit_p, wordAt_p, hlt]
    rw [h3]
    rfl
  | cons c l ih =>
    obtain ⟨hp, hc, hl', hsl, hb⟩ := byte_at hl
    have hlt : ((e : Int) < (s.size : Int)) = True := by simp; omega
    have we : IntKind.i64.wrap ((e : Int) + 1) = ((e + 1 : Nat) : Int) := by rw [w_i64 (by omega) (by omega)]; omega
    have e95 := i95 c.toNat
    refine LoopAt.intro ?_
    simp only [wlen] at h3
    cases hw : wordB c.toNat with
    | true =>
      rw [if_pos hw] at h3
      have K := ih (e + 1) (by omega) (by omega) hl' (by omega)
      simp only [wordB] at hw
      cases h5 : letterB c.toNat <;> cases h6 : digitB c.toNat <;> simp only [h5, h6, Bool.or_false, Bool.or_true, Bool.false_or, Bool.true_or, Bool.false_eq_true, Bool.true_eq_false] at hw
      all_goals
        simp only [argE_nil, argE_cons, ↓vmD, vmV, vmStd, Nat.reduceMul, ↓reduceIte, Nat.reduceAdd, Nat.reduceSub, Nat.reduceEqDiff, Nat.reduceLT, Nat.reduceLeDiff, reduceCtorEq, Int.reduceToNat, Int.reduceLT, Int.reduceLE, Int.reduceEq, Int.reduceNeg, Int.reduceBEq, Int.reduceBNe, String.reduceEq, forall_const, tyS, slIndexByte_p, indexByte_p, indexRune_p, containsRune_p, classOf_p, isWordByte_p, letter_p, digit_p, wordAt_p, hlt, hb, h5, h6, we, e95, hw]
        exact LoopAt.weak K (by simp only [subE, get_cons, Nat.reduceEqDiff, ↓reduceIte, reduceCtorEq, Nat.reduceAdd, and_self, and_true])
    | false =>
      rw [if_neg (by simp [hw])] at h3
      simp only [wordB, Bool.or_eq_false_iff] at hw
      simp only [argE_nil, argE_cons, ↓vmD, vmV, vmStd, Nat.reduceMul, ↓reduceIte, Nat.reduceAdd, Nat.reduceSub, Nat.reduceEqDiff, Nat.reduceLT, Nat.reduceLeDiff, reduceCtorEq, Int.reduceToNat, Int.reduceLT, Int.reduceLE, Int.reduceEq, Int.reduceNeg, Int.reduceBEq, Int.reduceBNe, String.reduceEq, forall_const, tyS, slIndexByte_p, indexByte_p, indexRune_p, containsRune_p, classOf_p, isWordByte_p, letter_p, digit_p, wordAt_p, hlt, hb, hw.1.1, hw.1.2, e95, hw.2]
      rw [h3]
      rfl
theorem rword_p (s : ByteArray) (i : Nat) (hi : i ≤ s.size) (hs : s.size ≤ 100000) (h : Heap) (Q : Ending → Heap → Prop) : CallsX Try.prog 41 #[.string s, .int .i64 (i : Int)] h Q = Q (.returned (.int .i64 ((i + wlen (s.toList.drop i) : Nat) : Int))) (h) := CallsX.exact (by kernel_rfl) (rword_h s i hi hs h)
theorem rword_q (s : ByteArray) (i : Nat) (hi : i ≤ s.size) (hs : s.size ≤ 100000) (h : Heap) (nt_ : Nat) (dst_ : Option Nat) (ρ_ : Env) (K_ : Env → Prop) : callQ Try.prog nt_ dst_ (.func (.func 41) #[] #[]) [.string s, .int .i64 (i : Int)] ρ_ h K_ = putK nt_ dst_ (.int .i64 ((i + wlen (s.toList.drop i) : Nat) : Int)) ρ_ K_ := callQ_exact (by kernel_rfl) (by kernel_rfl) (rword_h s i hi hs h)
theorem rword_v (s : ByteArray) (i : Nat) (hi : i ≤ s.size) (hs : s.size ≤ 100000) (A_ : AH) : valA Try.prog 41 #[.string s, .int .i64 (i : Int)] A_ = some (.int .i64 ((i + wlen (s.toList.drop i) : Nat) : Int)) := pureA_e (by kernel_rfl) (by kernel_rfl) (fun h => rword_h s i hi hs h)
theorem i_eq (c k : Nat) : ((c : Int) == (k : Int)) = decide (c = k) := by rw [Bool.eq_iff_iff]; simp only [beq_iff_eq, decide_eq_true_eq]; omega
theorem ext_size (s : ByteArray) (i k : Nat) (h : i + k ≤ s.size) : (s.extract i (i + k)).size = k := by simp; omega
def nameF (s : ByteArray) : Bool := decide (0 < s.size) && (decide (s.size ≤ 16) && ((match s.toList with | c :: _ => letterB c.toNat | [] => false) && decide (wlen s.toList = s.size)))
theorem toList_nil {s : ByteArray} (h : s.size = 0) : s.toList = [] := by
  have := size_list s
  rw [h] at this
  exact List.eq_nil_of_length_eq_zero this
theorem cls_letter : ∀ c, c < 256 → (clsF c = 2 ∧ letterB c = true) ∨ (clsF c ≠ 2 ∧ letterB c = false) := by decide +kernel
theorem str_nil (s : ByteArray) : (s.toList == []) = decide (s.size = 0) := by
  rw [Bool.eq_iff_iff]
  simp only [beq_iff_eq, decide_eq_true_eq]
  constructor
  · intro h; rw [← size_list, h]; rfl
  · exact toList_nil
theorem isName_h (s : ByteArray) (hs : s.size ≤ 100000) (h : Heap) : CallsH Try.prog 26 #[.string s] h fun r h' => r = .returned (.bool (nameF s)) ∧ h' = h := by
  refine callsH_of_den ⟨Try.prog, 26, Try.f26, 23, [0, 2], _⟩ (args := [_]) Try.func26 rfl Try.ntmps26 (by simp) ?_
  by_cases h0 : s.size = 0
  · have e0 : (s.toList = []) = True := by simp [toList_nil h0]
    simp only [argE_nil, argE_cons, ↓vmD, vmV, vmStd, Nat.reduceMul, ↓reduceIte, Nat.reduceAdd, Nat.reduceSub, Nat.reduceEqDiff, Nat.reduceLT, Nat.reduceLeDiff, reduceCtorEq, Int.reduceToNat, Int.reduceLT, Int.reduceLE, Int.reduceEq, Int.reduceNeg, Int.reduceBEq, Int.reduceBNe, String.reduceEq, forall_const, tyS, slIndexByte_p, indexByte_p, indexRune_p, containsRune_p, classOf_p, isWordByte_p, letter_p, digit_p, wordAt_p, rword_p, e0, toList_nil h0]
    simp [nameF, h0]
  have e0 : (s.toList = []) = False := by simp; intro h; have := size_list s; rw [h] at this; simp at this; omega
  obtain ⟨c, l, hl⟩ := drop_byte (s := s) (i := 0) (by omega)
  obtain ⟨hp, hc, hl', hsl, hb⟩ := byte_at hl
  have hcl := u8_lt c
  have w32 : IntKind.i32.wrap (c.toNat : Int) = c.toNat := w_i32 (by omega) (by omega)
  rw [List.drop_zero] at hl
  have hw := wlen_le s.toList
  rw [size_list] at hw
  have hx := ext_size s 0 (wlen s.toList) (by omega)
  rw [Nat.zero_add] at hx
  have wa : ∀ h Q, CallsX Try.prog 39 #[.string s, .int .i64 0] h Q = Q (.returned (.string (s.extract 0 (wlen s.toList)))) h := fun h Q => by
    have e := wordAt_p s 0 (by omega) hs h Q
    simp only [List.drop_zero, Nat.zero_add] at e
    exact e
  by_cases h16 : (16 : Int) < (s.size : Int)
  · simp only [argE_nil, argE_cons, ↓vmD, vmV, vmStd, Nat.reduceMul, ↓reduceIte, Nat.reduceAdd, Nat.reduceSub, Nat.reduceEqDiff, Nat.reduceLT, Nat.reduceLeDiff, reduceCtorEq, Int.reduceToNat, Int.reduceLT, Int.reduceLE, Int.reduceEq, Int.reduceNeg, Int.reduceBEq, Int.reduceBNe, String.reduceEq, forall_const, tyS, slIndexByte_p, indexByte_p, indexRune_p, containsRune_p, classOf_p, isWordByte_p, letter_p, digit_p, wordAt_p, rword_p, e0, h16]
    have : ¬ s.size ≤ 16 := by omega
    simp [nameF, this]
  rcases cls_letter c.toNat hcl with ⟨k1, k2⟩ | ⟨k1, k2⟩
  · simp only [argE_nil, argE_cons, ↓vmD, vmV, vmStd, Nat.reduceMul, ↓reduceIte, Nat.reduceAdd, Nat.reduceSub, Nat.reduceEqDiff, Nat.reduceLT, Nat.reduceLeDiff, reduceCtorEq, Int.reduceToNat, Int.reduceLT, Int.reduceLE, Int.reduceEq, Int.reduceNeg, Int.reduceBEq, Int.reduceBNe, String.reduceEq, forall_const, tyS, slIndexByte_p, indexByte_p, indexRune_p, containsRune_p, classOf_p, isWordByte_p, letter_p, digit_p, wordAt_p, rword_p, e0, h16, hb, w32, hcl, k1, wa, hx]
    have h1 : s.size ≤ 16 := by omega
    have h2 : 0 < s.size := by omega
    rw [i_eq]
    simp only [nameF, h1, h2, decide_true, Bool.true_and]
    rw [hl]
    simp only [k2, Bool.true_and]
  · simp only [argE_nil, argE_cons, ↓vmD, vmV, vmStd, Nat.reduceMul, ↓reduceIte, Nat.reduceAdd, Nat.reduceSub, Nat.reduceEqDiff, Nat.reduceLT, Nat.reduceLeDiff, reduceCtorEq, Int.reduceToNat, Int.reduceLT, Int.reduceLE, Int.reduceEq, Int.reduceNeg, Int.reduceBEq, Int.reduceBNe, String.reduceEq, forall_const, tyS, slIndexByte_p, indexByte_p, indexRune_p, containsRune_p, classOf_p, isWordByte_p, letter_p, digit_p, wordAt_p, rword_p, e0, h16, hb, w32, hcl, k1]
    simp only [nameF]
    rw [hl]
    simp [k2]
theorem isName_p (s : ByteArray) (hs : s.size ≤ 100000) (h : Heap) (Q : Ending → Heap → Prop) : CallsX Try.prog 26 #[.string s] h Q = Q (.returned (.bool (nameF s))) (h) := CallsX.exact (by kernel_rfl) (isName_h s hs h)
theorem isName_q (s : ByteArray) (hs : s.size ≤ 100000) (h : Heap) (nt_ : Nat) (dst_ : Option Nat) (ρ_ : Env) (K_ : Env → Prop) : callQ Try.prog nt_ dst_ (.func (.func 26) #[] #[]) [.string s] ρ_ h K_ = putK nt_ dst_ (.bool (nameF s)) ρ_ K_ := callQ_exact (by kernel_rfl) (by kernel_rfl) (isName_h s hs h)
theorem isName_v (s : ByteArray) (hs : s.size ≤ 100000) (A_ : AH) : valA Try.prog 26 #[.string s] A_ = some (.bool (nameF s)) := pureA_e (by kernel_rfl) (by kernel_rfl) (fun h => isName_h s hs h)
theorem risName_h (s : ByteArray) (hs : s.size ≤ 100000) (h : Heap) : CallsH Try.prog 28 #[.string s] h fun r h' => r = .returned (.bool (nameF s)) ∧ h' = h := by
  refine callsH_of_den ⟨Try.prog, 28, Try.f28, 22, [0, 2], _⟩ (args := [_]) Try.func28 rfl Try.ntmps28 (by simp) ?_
  by_cases h0 : s.size = 0
  · have e0 : (s.toList = []) = True := by simp [toList_nil h0]
    simp only [argE_nil, argE_cons, ↓vmD, vmV, vmStd, Nat.reduceMul, ↓reduceIte, Nat.reduceAdd, Nat.reduceSub, Nat.reduceEqDiff, Nat.reduceLT, Nat.reduceLeDiff, reduceCtorEq, Int.reduceToNat, Int.reduceLT, Int.reduceLE, Int.reduceEq, Int.reduceNeg, Int.reduceBEq, Int.reduceBNe, String.reduceEq, forall_const, tyS, slIndexByte_p, indexByte_p, indexRune_p, containsRune_p, classOf_p, isWordByte_p, letter_p, digit_p, wordAt_p, rword_p, isName_p, e0, toList_nil h0]
    simp [nameF, h0]
  have e0 : (s.toList = []) = False := by simp; intro h; have := size_list s; rw [h] at this; simp at this; omega
  obtain ⟨c, l, hl⟩ := drop_byte (s := s) (i := 0) (by omega)
  obtain ⟨hp, hc, hl', hsl, hb⟩ := byte_at hl
  rw [List.drop_zero] at hl
  have wa : ∀ h Q, CallsX Try.prog 41 #[.string s, .int .i64 0] h Q = Q (.returned (.int .i64 ((wlen s.toList : Nat) : Int))) h := fun h Q => by
    have e := rword_p s 0 (by omega) hs h Q
    simp only [List.drop_zero, Nat.zero_add] at e
    exact e
  by_cases h16 : (s.size : Int) ≤ (16 : Int)
  · have h1 : s.size ≤ 16 := by omega
    have h2 : 0 < s.size := by omega
    cases k2 : letterB c.toNat with
    | true =>
      simp only [argE_nil, argE_cons, ↓vmD, vmV, vmStd, Nat.reduceMul, ↓reduceIte, Nat.reduceAdd, Nat.reduceSub, Nat.reduceEqDiff, Nat.reduceLT, Nat.reduceLeDiff, reduceCtorEq, Int.reduceToNat, Int.reduceLT, Int.reduceLE, Int.reduceEq, Int.reduceNeg, Int.reduceBEq, Int.reduceBNe, String.reduceEq, forall_const, tyS, slIndexByte_p, indexByte_p, indexRune_p, containsRune_p, classOf_p, isWordByte_p, letter_p, digit_p, wordAt_p, rword_p, isName_p, e0, h16, hb, k2, wa]
      simp only [nameF, h1, h2, decide_true, Bool.true_and]
      rw [hl]
      simp only [k2, Bool.true_and, i_eq]
    | false =>
      simp only [argE_nil, argE_cons, ↓vmD, vmV, vmStd, Nat.reduceMul, ↓reduceIte, Nat.reduceAdd, Nat.reduceSub, Nat.reduceEqDiff, Nat.reduceLT, Nat.reduceLeDiff, reduceCtorEq, Int.reduceToNat, Int.reduceLT, Int.reduceLE, Int.reduceEq, Int.reduceNeg, Int.reduceBEq, Int.reduceBNe, String.reduceEq, forall_const, tyS, slIndexByte_p, indexByte_p, indexRune_p, containsRune_p, classOf_p, isWordByte_p, letter_p, digit_p, wordAt_p, rword_p, isName_p, e0, h16, hb, k2, wa]
      simp only [nameF]
      rw [hl]
      simp [k2]
  · simp only [argE_nil, argE_cons, ↓vmD, vmV, vmStd, Nat.reduceMul, ↓reduceIte, Nat.reduceAdd, Nat.reduceSub, Nat.reduceEqDiff, Nat.reduceLT, Nat.reduceLeDiff, reduceCtorEq, Int.reduceToNat, Int.reduceLT, Int.reduceLE, Int.reduceEq, Int.reduceNeg, Int.reduceBEq, Int.reduceBNe, String.reduceEq, forall_const, tyS, slIndexByte_p, indexByte_p, indexRune_p, containsRune_p, classOf_p, isWordByte_p, letter_p, digit_p, wordAt_p, rword_p, isName_p, e0, h16]
    have : ¬ s.size ≤ 16 := by omega
    simp [nameF, this]
theorem risName_p (s : ByteArray) (hs : s.size ≤ 100000) (h : Heap) (Q : Ending → Heap → Prop) : CallsX Try.prog 28 #[.string s] h Q = Q (.returned (.bool (nameF s))) (h) := CallsX.exact (by kernel_rfl) (risName_h s hs h)
theorem risName_q (s : ByteArray) (hs : s.size ≤ 100000) (h : Heap) (nt_ : Nat) (dst_ : Option Nat) (ρ_ : Env) (K_ : Env → Prop) : callQ Try.prog nt_ dst_ (.func (.func 28) #[] #[]) [.string s] ρ_ h K_ = putK nt_ dst_ (.bool (nameF s)) ρ_ K_ := callQ_exact (by kernel_rfl) (by kernel_rfl) (risName_h s hs h)
theorem risName_v (s : ByteArray) (hs : s.size ≤ 100000) (A_ : AH) : valA Try.prog 28 #[.string s] A_ = some (.bool (nameF s)) := pureA_e (by kernel_rfl) (by kernel_rfl) (fun h => risName_h s hs h)
end Go.Proofs.Ytmjkjpjjckcihaa
