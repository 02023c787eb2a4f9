/-
The lexer: words and skipping.
Conditions: none.
-/
import Derived.Test.YtilifbndbdanoaaDoorLexB
namespace Go.Proofs.YtilifbndbdanoaaDoor
open Go.Vm
set_option linter.unusedSimpArgs false
set_option linter.unusedVariables false
set_option maxHeartbeats 1000000
set_option maxRecDepth 20000

theorem byte_at {s : ByteArray} {pos : Nat} {c : UInt8} {l : List UInt8} (h : s.toList.drop pos = c :: l) : ∃ hp : pos < s.size, s[pos]'hp = c ∧ s.toList.drop (pos + 1) = l ∧ s.size = pos + 1 + l.length ∧ s.data[pos]? = some c := by
  have hn : s.size = s.data.toList.length := rfl
  rw [ByteArray.toList_eq] at h ⊢
  have hlen : (s.data.toList.drop pos).length = l.length + 1 := by rw [h]; rfl
  have hl2 := hlen
  rw [List.length_drop, ← hn] at hl2
  have hp : pos < s.size := by omega
  have h1 := List.drop_eq_getElem_cons (l := s.data.toList) (i := pos) (by omega)
  rw [h] at h1
  simp only [List.cons.injEq] at h1
  refine ⟨hp, ?_, h1.2.symm, by omega, ?_⟩
  · rw [h1.1]; rfl
  · rw [h1.1]; simp
theorem byte_end {s : ByteArray} {pos : Nat} (h : s.toList.drop pos = []) : ¬ pos < s.size := by
  have hn : s.size = s.data.toList.length := rfl
  rw [ByteArray.toList_eq] at h
  have := congrArg List.length h
  rw [List.length_drop, ← hn] at this
  simp only [List.length_nil] at this
  omega
theorem size_list (s : ByteArray) : s.toList.length = s.size := by rw [ByteArray.toList_eq]; rfl
def wlen : List UInt8 → Nat
  | [] => 0
  | c :: l => if wordB c.toNat = true then wlen l + 1 else 0
def skN : Bool → List UInt8 → Nat
  | _, [] => 0
  | r, c :: l => if (r || (blankB c.toNat || decide (c.toNat = 35))) = true then skN ((r || decide (c.toNat = 35)) && !decide (c.toNat = 10)) l + 1 else 0
theorem wlen_le : ∀ l : List UInt8, wlen l ≤ l.length
  | [] => Nat.le_refl _
  | c :: l => by
    have := wlen_le l
    simp only [wlen, List.length_cons]
    split <;> omega
theorem skN_le : ∀ (r : Bool) (l : List UInt8), skN r l ≤ l.length
  | _, [] => Nat.le_refl _
  | r, c :: l => by
    have := skN_le ((r || decide (c.toNat = 35)) && !decide (c.toNat = 10)) l
    simp only [skN, List.length_cons]
    split <;> omega
theorem u8_lt (c : UInt8) : c.toNat < 256 := c.toNat_lt
theorem cls_word : ∀ c, c < 256 → (clsF c == 2 || clsF c == 3 || clsF c == 4) = wordB c := by decide +kernel
theorem letter_int (c : Nat) : (decide ((97 : Int) ≤ (c : Int)) && decide ((c : Int) ≤ 122) || decide ((65 : Int) ≤ (c : Int)) && decide ((c : Int) ≤ 90)) = letterB c := by
  rw [Bool.eq_iff_iff]; simp [letterB]; omega
theorem digit_int (c : Nat) : (decide ((48 : Int) ≤ (c : Int)) && decide ((c : Int) ≤ 57)) = digitB c := by
  rw [Bool.eq_iff_iff]; simp [digitB]; omega
theorem isWordByte_h (c : UInt8) (h : Heap) : CallsH Tryd.prog 32 #[.int .u8 (c.toNat : Int)] h fun r h' => r = .returned (.bool (wordB c.toNat)) ∧ h' = h := by
  refine callsH_of_den ⟨Tryd.prog, 32, Tryd.f32, 17, [0, 2, 3], _⟩ (args := [_]) Tryd.func32 rfl Tryd.ntmps32 (by simp) ?_
  have hc := u8_lt c
  have hw : IntKind.i32.wrap (c.toNat : Int) = c.toNat := w_i32 (by omega) (by omega)
  simp only [argE_nil, argE_cons, ↓vmD, vmV, vmStd, Nat.reduceMul, ↓reduceIte, Nat.reduceAdd, Nat.reduceSub, Nat.reduceEqDiff, Nat.reduceLT, Nat.reduceLeDiff, reduceCtorEq, Int.reduceToNat, Int.reduceLT, Int.reduceLE, Int.reduceEq, Int.reduceNeg, Int.reduceBEq, Int.reduceBNe, String.reduceEq, forall_const, tyS, slIndexByte_p, indexByte_p, indexRune_p, containsRune_p, slHasPrefix_p, hasPrefix_p, classOf_p, hw, hc]
  rw [cls_word c.toNat hc]
theorem isWordByte_p (c : UInt8) (h : Heap) (Q : Ending → Heap → Prop) : CallsX Tryd.prog 32 #[.int .u8 (c.toNat : Int)] h Q = Q (.returned (.bool (wordB c.toNat))) (h) := CallsX.exact (by kernel_rfl) (isWordByte_h c h)
theorem isWordByte_q (c : UInt8) (h : Heap) (nt_ : Nat) (dst_ : Option Nat) (ρ_ : Env) (K_ : Env → Prop) : callQ Tryd.prog nt_ dst_ (.func (.func 32) #[] #[]) [.int .u8 (c.toNat : Int)] ρ_ h K_ = putK nt_ dst_ (.bool (wordB c.toNat)) ρ_ K_ := callQ_exact (by kernel_rfl) (by kernel_rfl) (isWordByte_h c h)
theorem isWordByte_v (c : UInt8) (A_ : AH) : valA Tryd.prog 32 #[.int .u8 (c.toNat : Int)] A_ = some (.bool (wordB c.toNat)) := pureA_e (by kernel_rfl) (by kernel_rfl) (fun h => isWordByte_h c h)
theorem drop_byte {s : ByteArray} {i : Nat} (h : i < s.size) : ∃ c l, s.toList.drop i = c :: l := by
  cases hl : s.toList.drop i with
  | nil => exact absurd h (byte_end hl)
  | cons c l => exact ⟨c, l, rfl⟩
theorem wordAt_h (s : ByteArray) (i : Nat) (hi : i ≤ s.size) (hs : s.size ≤ 100000) (h : Heap) : CallsH Tryd.prog 20 #[.string s, .int .i64 (i : Int)] h fun r h' => r = .returned (.string (s.extract i (i + wlen (s.toList.drop i)))) ∧ h' = h := by
  refine callsH_of_den ⟨Tryd.prog, 20, Tryd.f20, 23, [0, 1, 4, 5], _⟩ (args := [_, _]) Tryd.func20 rfl Tryd.ntmps20 (by simp) ?_
  simp only [argE_nil, argE_cons, ↓vmD, vmV, vmStd, Nat.reduceMul, ↓reduceIte, Nat.reduceAdd, Nat.reduceSub, Nat.reduceEqDiff, Nat.reduceLT, Nat.reduceLeDiff, reduceCtorEq, Int.reduceToNat, Int.reduceLT, Int.reduceLE, Int.reduceEq, Int.reduceNeg, Int.reduceBEq, Int.reduceBNe, String.reduceEq, forall_const, tyS, slIndexByte_p, indexByte_p, indexRune_p, containsRune_p, slHasPrefix_p, hasPrefix_p, classOf_p, isWordByte_p]
  obtain ⟨e, he, h1, h2, h3⟩ : ∃ e : Nat, e = i ∧ i ≤ e ∧ e ≤ s.size ∧ i + wlen (s.toList.drop i) = e + wlen (s.toList.drop e) := ⟨i, rfl, by omega, hi, rfl⟩
  rw [show (5, some (Value.int .i64 (i : Int))) = (5, some (Value.int .i64 (e : Int))) by rw [he]]
  clear he
  generalize hl : s.toList.drop e = l at h3
  induction l generalizing e with
  | nil =>
    have hlt : ((e : Int) < (s.size : Int)) = False := by have := byte_end hl; simp; omega
    have hle : ((i : Int) ≤ (e : Int)) = True := by simp; omega
    have hle2 : ((e : Int) ≤ (s.size : Int)) = True := by simp; omega
    refine LoopAt.intro ?_
    simp only [argE_nil, argE_cons, ↓vmD, vmV, vmStd, Nat.reduceMul, ↓reduceIte, Nat.reduceAdd, Nat.reduceSub, Nat.reduceEqDiff, Nat.reduceLT, Nat.reduceLeDiff, reduceCtorEq, Int.reduceToNat, Int.reduceLT, Int.reduceLE, Int.reduceEq, Int.reduceNeg, Int.reduceBEq, Int.reduceBNe, String.reduceEq, forall_const, tyS, slIndexByte_p, indexByte_p, indexRune_p, containsRune_p, slHasPrefix_p, hasPrefix_p, classOf_p, isWordByte_p, hlt, hle, hle2]
    rw [h3]
    rfl
  | cons c l ih =>
    obtain ⟨hp, hc, hl', hsl, hb⟩ := byte_at hl
    have hlt : ((e : Int) < (s.size : Int)) = True := by simp; omega
    have hle : ((i : Int) ≤ (e : Int)) = True := by simp; omega
    have hle2 : ((e : Int) ≤ (s.size : Int)) = True := by simp; omega
    have we : IntKind.i64.wrap ((e : Int) + 1) = ((e + 1 : Nat) : Int) := by rw [w_i64 (by omega) (by omega)]; omega
    refine LoopAt.intro ?_
    simp only [wlen] at h3
    cases hw : wordB c.toNat with
    | true =>
      rw [if_pos hw] at h3
      simp only [argE_nil, argE_cons, ↓vmD, vmV, vmStd, Nat.reduceMul, ↓reduceIte, Nat.reduceAdd, Nat.reduceSub, Nat.reduceEqDiff, Nat.reduceLT, Nat.reduceLeDiff, reduceCtorEq, Int.reduceToNat, Int.reduceLT, Int.reduceLE, Int.reduceEq, Int.reduceNeg, Int.reduceBEq, Int.reduceBNe, String.reduceEq, forall_const, tyS, slIndexByte_p, indexByte_p, indexRune_p, containsRune_p, slHasPrefix_p, hasPrefix_p, classOf_p, isWordByte_p, hlt, hb, we, hw]
      exact LoopAt.weak (ih (e + 1) (by omega) (by omega) hl' (by omega)) (by simp only [subE, get_cons, Nat.reduceEqDiff, ↓reduceIte, reduceCtorEq, Nat.reduceAdd, and_self, and_true])
    | false =>
      rw [if_neg (by simp [hw])] at h3
      simp only [argE_nil, argE_cons, ↓vmD, vmV, vmStd, Nat.reduceMul, ↓reduceIte, Nat.reduceAdd, Nat.reduceSub, Nat.reduceEqDiff, Nat.reduceLT, Nat.reduceLeDiff, reduceCtorEq, Int.reduceToNat, Int.reduceLT, Int.reduceLE, Int.reduceEq, Int.reduceNeg, Int.reduceBEq, Int.reduceBNe, String.reduceEq, forall_const, tyS, slIndexByte_p, indexByte_p, indexRune_p, containsRune_p, slHasPrefix_p, hasPrefix_p, classOf_p, isWordByte_p, hlt, hb, we, hw, hle, hle2]
      rw [h3]
      rfl
theorem wordAt_p (s : ByteArray) (i : Nat) (hi : i ≤ s.size) (hs : s.size ≤ 100000) (h : Heap) (Q : Ending → Heap → Prop) : CallsX Tryd.prog 20 #[.string s, .int .i64 (i : Int)] h Q = Q (.returned (.string (s.extract i (i + wlen (s.toList.drop i))))) (h) := CallsX.exact (by kernel_rfl) (wordAt_h s i hi hs h)
theorem wordAt_q (s : ByteArray) (i : Nat) (hi : i ≤ s.size) (hs : s.size ≤ 100000) (h : Heap) (nt_ : Nat) (dst_ : Option Nat) (ρ_ : Env) (K_ : Env → Prop) : callQ Tryd.prog nt_ dst_ (.func (.func 20) #[] #[]) [.string s, .int .i64 (i : Int)] ρ_ h K_ = putK nt_ dst_ (.string (s.extract i (i + wlen (s.toList.drop i)))) ρ_ K_ := callQ_exact (by kernel_rfl) (by kernel_rfl) (wordAt_h s i hi hs h)
theorem wordAt_v (s : ByteArray) (i : Nat) (hi : i ≤ s.size) (hs : s.size ≤ 100000) (A_ : AH) : valA Tryd.prog 20 #[.string s, .int .i64 (i : Int)] A_ = some (.string (s.extract i (i + wlen (s.toList.drop i)))) := pureA_e (by kernel_rfl) (by kernel_rfl) (fun h => wordAt_h s i hi hs h)
theorem i95 (c : Nat) : ((c : Int) == 95) = decide (c = 95) := by rw [Bool.eq_iff_iff]; simp; omega
theorem skN_rem : ∀ l : List UInt8, skN true l = if Lib.indexByte l 10 = -1 then l.length else (Lib.indexByte l 10).toNat + skN false (l.drop (Lib.indexByte l 10).toNat)
  | [] => by simp [skN, Lib.indexByte]
  | c :: l => by
    have ih := skN_rem l
    have hge := Lib.indexByte_ge l 10
    by_cases hc : c = 10
    · subst hc
      simp [skN, Lib.indexByte, blankB]
    · have h1 : c.toNat ≠ 10 := fun h => hc (by apply UInt8.toNat.inj; exact h)
      simp only [skN, Lib.indexByte, Bool.true_or, if_true, Bool.true_and, decide_eq_false h1, Bool.not_false, ih, beq_iff_eq, if_neg hc]
      by_cases h2 : Lib.indexByte l 10 = -1
      · simp [h2]
      · have h3 : Lib.indexByte l 10 + 1 ≠ -1 := by omega
        have h4 : (Lib.indexByte l 10 + 1).toNat = (Lib.indexByte l 10).toNat + 1 := by omega
        simp only [h2, if_false, h3, h4, List.drop_succ_cons]
        omega
theorem skN_hash {c : UInt8} (l : List UInt8) (hc : c.toNat = 35) : skN false (c :: l) = if Lib.indexByte (c :: l) 10 = -1 then (c :: l).length else (Lib.indexByte (c :: l) 10).toNat + skN false ((c :: l).drop (Lib.indexByte (c :: l) 10).toNat) := by
  rw [← skN_rem]
  simp [skN, hc]
theorem ext_drop (s : ByteArray) (i : Nat) : (s.extract i s.size).toList = s.toList.drop i := by
  rw [ByteArray.toList_eq, ByteArray.toList_eq, ByteArray.data_extract]
  simp
  rw [List.take_of_length_le]
  simp
theorem ext_drop' (s : ByteArray) (i : Nat) : (s.extract i s.size).data.toList = s.toList.drop i := by rw [← ByteArray.toList_eq, ext_drop]
theorem cls_cases : ∀ c, c < 256 → (clsF c = 1 ∧ blankB c = true) ∨ (clsF c = 6 ∧ c = 35 ∧ blankB c = false) ∨ (clsF c ≠ 1 ∧ clsF c ≠ 6 ∧ blankB c = false ∧ c ≠ 35) := by decide +kernel
theorem index_lt : ∀ (l : List UInt8) (c : UInt8), Lib.indexByte l c < l.length ∨ l = []
  | [], _ => .inr rfl
  | a :: l, c => by
    left
    simp only [Lib.indexByte]
    rcases index_lt l c with h | h
    · split
      · simp
      · split
        · simp; omega
        · simp; omega
    · subst h; simp [Lib.indexByte]; split <;> simp
theorem skip_h (s : ByteArray) (i : Nat) (hi : i ≤ s.size) (hs : s.size ≤ 100000) (h : Heap) : CallsH Tryd.prog 11 #[.string s, .int .i64 (i : Int)] h fun r h' => r = .returned (.int .i64 ((i + skN false (s.toList.drop i) : Nat) : Int)) ∧ h' = h := by
  refine callsH_of_den ⟨Tryd.prog, 11, Tryd.f11, 34, [0, 1, 4, 5, 14], _⟩ (args := [_, _]) Tryd.func11 rfl Tryd.ntmps11 (by simp) ?_
  simp only [argE_nil, argE_cons, ↓vmD, vmV, vmStd, Nat.reduceMul, ↓reduceIte, Nat.reduceAdd, Nat.reduceSub, Nat.reduceEqDiff, Nat.reduceLT, Nat.reduceLeDiff, reduceCtorEq, Int.reduceToNat, Int.reduceLT, Int.reduceLE, Int.reduceEq, Int.reduceNeg, Int.reduceBEq, Int.reduceBNe, String.reduceEq, forall_const, tyS, slIndexByte_p, indexByte_p, indexRune_p, containsRune_p, slHasPrefix_p, hasPrefix_p, classOf_p, isWordByte_p, wordAt_p]
  obtain ⟨e, he, h1, h2, h3⟩ : ∃ e : Nat, e = i ∧ i ≤ e ∧ e ≤ s.size ∧ i + skN false (s.toList.drop i) = e + skN false (s.toList.drop e) := ⟨i, rfl, by omega, hi, rfl⟩
  rw [show (1, some (Value.int .i64 (i : Int))) = (1, some (Value.int .i64 (e : Int))) by rw [he]]
  clear he
  obtain ⟨m, hm⟩ : ∃ m, s.size - e ≤ m := ⟨_, Nat.le_refl _⟩
  induction m generalizing e with
  | zero =>
    have hlt : ((e : Int) < (s.size : Int)) = False := by simp; omega
    refine LoopAt.intro ?_
    simp only [argE_nil, argE_cons, ↓vmD, vmV, vmStd, Nat.reduceMul, ↓reduceIte, Nat.reduceAdd, Nat.reduceSub, Nat.reduceEqDiff, Nat.reduceLT, Nat.reduceLeDiff, reduceCtorEq, Int.reduceToNat, Int.reduceLT, Int.reduceLE, Int.reduceEq, Int.reduceNeg, Int.reduceBEq, Int.reduceBNe, String.reduceEq, forall_const, tyS, slIndexByte_p, indexByte_p, indexRune_p, containsRune_p, slHasPrefix_p, hasPrefix_p, classOf_p, isWordByte_p, wordAt_p, hlt]
    rw [h3, List.drop_of_length_le (by rw [size_list]; omega)]
    rfl
  | succ m ih =>
    cases hl : s.toList.drop e with
    | nil =>
      have hlt : ((e : Int) < (s.size : Int)) = False := by have := byte_end hl; simp; omega
      refine LoopAt.intro ?_
      simp only [argE_nil, argE_cons, ↓vmD, vmV, vmStd, Nat.reduceMul, ↓reduceIte, Nat.reduceAdd, Nat.reduceSub, Nat.reduceEqDiff, Nat.reduceLT, Nat.reduceLeDiff, reduceCtorEq, Int.reduceToNat, Int.reduceLT, Int.reduceLE, Int.reduceEq, Int.reduceNeg, Int.reduceBEq, Int.reduceBNe, String.reduceEq, forall_const, tyS, slIndexByte_p, indexByte_p, indexRune_p, containsRune_p, slHasPrefix_p, hasPrefix_p, classOf_p, isWordByte_p, wordAt_p, hlt]
      rw [h3, hl]
      rfl
    | cons c l =>
      obtain ⟨hp, hc, hl', hsl, hb⟩ := byte_at hl
      have hlt : ((e : Int) < (s.size : Int)) = True := by simp; omega
      have hle2 : ((e : Int) ≤ (s.size : Int)) = True := by simp; omega
      have he0 : (0 ≤ (e : Int)) = True := by simp
      have we : IntKind.i64.wrap ((e : Int) + 1) = ((e + 1 : Nat) : Int) := by rw [w_i64 (by omega) (by omega)]; omega
      have w32 : IntKind.i32.wrap (c.toNat : Int) = c.toNat := w_i32 (by have := u8_lt c; omega) (by have := u8_lt c; omega)
      have hcl := u8_lt c
      refine LoopAt.intro ?_
      rw [hl] at h3
      rcases cls_cases c.toNat hcl with ⟨k1, k2⟩ | ⟨k1, k2, k3⟩ | ⟨k1, k2, k3, k4⟩
      · have k4 : c.toNat ≠ 35 := by intro h; rw [h] at k2; cases k2
        simp only [skN, k2, Bool.false_or, Bool.true_or, if_true, decide_eq_false k4, Bool.false_and] at h3
        simp only [argE_nil, argE_cons, ↓vmD, vmV, vmStd, Nat.reduceMul, ↓reduceIte, Nat.reduceAdd, Nat.reduceSub, Nat.reduceEqDiff, Nat.reduceLT, Nat.reduceLeDiff, reduceCtorEq, Int.reduceToNat, Int.reduceLT, Int.reduceLE, Int.reduceEq, Int.reduceNeg, Int.reduceBEq, Int.reduceBNe, String.reduceEq, forall_const, tyS, slIndexByte_p, indexByte_p, indexRune_p, containsRune_p, slHasPrefix_p, hasPrefix_p, classOf_p, isWordByte_p, wordAt_p, hlt, hb, w32, hcl, k1, we]
        exact LoopAt.weak (ih (e + 1) (by omega) (by omega) (by rw [hl']; omega) (by omega)) (by simp only [subE, get_cons, Nat.reduceEqDiff, ↓reduceIte, reduceCtorEq, Nat.reduceAdd, and_self, and_true])
      · rw [skN_hash l k2] at h3
        have hx := Lib.indexByte_ge (c :: l) 10
        rcases index_lt (c :: l) 10 with hy | hy
        rotate_left
        · cases hy
        rw [← hl] at h3 hx hy
        simp only [argE_nil, argE_cons, ↓vmD, vmV, vmStd, Nat.reduceMul, ↓reduceIte, Nat.reduceAdd, Nat.reduceSub, Nat.reduceEqDiff, Nat.reduceLT, Nat.reduceLeDiff, reduceCtorEq, Int.reduceToNat, Int.reduceLT, Int.reduceLE, Int.reduceEq, Int.reduceNeg, Int.reduceBEq, Int.reduceBNe, String.reduceEq, forall_const, tyS, slIndexByte_p, indexByte_p, indexRune_p, containsRune_p, slHasPrefix_p, hasPrefix_p, classOf_p, isWordByte_p, wordAt_p, hlt, hb, w32, hcl, k1, we, hle2, he0, ext_drop', show Nat.toUInt8 10 = 10 from rfl]
        by_cases hz : Lib.indexByte (s.toList.drop e) 10 < 0
        · simp only [argE_nil, argE_cons, ↓vmD, vmV, vmStd, Nat.reduceMul, ↓reduceIte, Nat.reduceAdd, Nat.reduceSub, Nat.reduceEqDiff, Nat.reduceLT, Nat.reduceLeDiff, reduceCtorEq, Int.reduceToNat, Int.reduceLT, Int.reduceLE, Int.reduceEq, Int.reduceNeg, Int.reduceBEq, Int.reduceBNe, String.reduceEq, forall_const, tyS, slIndexByte_p, indexByte_p, indexRune_p, containsRune_p, slHasPrefix_p, hasPrefix_p, classOf_p, isWordByte_p, wordAt_p, hz]
          rw [if_pos (by omega), List.length_drop, size_list] at h3
          have : e + (s.size - e) = s.size := by omega
          rw [h3, this]
        · simp only [argE_nil, argE_cons, ↓vmD, vmV, vmStd, Nat.reduceMul, ↓reduceIte, Nat.reduceAdd, Nat.reduceSub, Nat.reduceEqDiff, Nat.reduceLT, Nat.reduceLeDiff, reduceCtorEq, Int.reduceToNat, Int.reduceLT, Int.reduceLE, Int.reduceEq, Int.reduceNeg, Int.reduceBEq, Int.reduceBNe, String.reduceEq, forall_const, tyS, slIndexByte_p, indexByte_p, indexRune_p, containsRune_p, slHasPrefix_p, hasPrefix_p, classOf_p, isWordByte_p, wordAt_p, hz]
          rw [if_neg (by omega), List.drop_drop] at h3
          have hy2 : Lib.indexByte (s.toList.drop e) 10 < s.size - e := by rw [List.length_drop, size_list] at hy; omega
          obtain ⟨q, hq⟩ := Int.eq_ofNat_of_zero_le (Int.not_lt.1 hz)
          rw [hq] at h3 hy2 ⊢
          have w2 : IntKind.i64.wrap ((e : Int) + (q : Int)) = ((e + q : Nat) : Int) := by rw [w_i64 (by omega) (by omega)]; omega
          simp only [argE_nil, argE_cons, ↓vmD, vmV, vmStd, Nat.reduceMul, ↓reduceIte, Nat.reduceAdd, Nat.reduceSub, Nat.reduceEqDiff, Nat.reduceLT, Nat.reduceLeDiff, reduceCtorEq, Int.reduceToNat, Int.reduceLT, Int.reduceLE, Int.reduceEq, Int.reduceNeg, Int.reduceBEq, Int.reduceBNe, String.reduceEq, forall_const, tyS, slIndexByte_p, indexByte_p, indexRune_p, containsRune_p, slHasPrefix_p, hasPrefix_p, classOf_p, isWordByte_p, wordAt_p, w2]
          have hq0 : 0 < q := by
            rcases Nat.eq_zero_or_pos q with h0 | h0
            · subst h0
              have := (Lib.indexByte_some hq).1
              rw [hl] at this
              simp at this
              rw [this] at k2
              cases k2
            · exact h0
          simp only [Int.toNat_natCast] at h3
          exact LoopAt.weak (ih (e + q) (by omega) (by omega) (by omega) (by omega)) (by simp only [subE, get_cons, Nat.reduceEqDiff, ↓reduceIte, reduceCtorEq, Nat.reduceAdd, and_self, and_true])
      · simp only [argE_nil, argE_cons, ↓vmD, vmV, vmStd, Nat.reduceMul, ↓reduceIte, Nat.reduceAdd, Nat.reduceSub, Nat.reduceEqDiff, Nat.reduceLT, Nat.reduceLeDiff, reduceCtorEq, Int.reduceToNat, Int.reduceLT, Int.reduceLE, Int.reduceEq, Int.reduceNeg, Int.reduceBEq, Int.reduceBNe, String.reduceEq, forall_const, tyS, slIndexByte_p, indexByte_p, indexRune_p, containsRune_p, slHasPrefix_p, hasPrefix_p, classOf_p, isWordByte_p, wordAt_p, hlt, hb, w32, hcl, k1, k2]
        simp only [skN, k3, Bool.false_or, decide_eq_false k4, Bool.false_eq_true, if_false] at h3
        rw [h3]
        rfl
theorem skip_p (s : ByteArray) (i : Nat) (hi : i ≤ s.size) (hs : s.size ≤ 100000) (h : Heap) (Q : Ending → Heap → Prop) : CallsX Tryd.prog 11 #[.string s, .int .i64 (i : Int)] h Q = Q (.returned (.int .i64 ((i + skN false (s.toList.drop i) : Nat) : Int))) (h) := CallsX.exact (by kernel_rfl) (skip_h s i hi hs h)
theorem skip_q (s : ByteArray) (i : Nat) (hi : i ≤ s.size) (hs : s.size ≤ 100000) (h : Heap) (nt_ : Nat) (dst_ : Option Nat) (ρ_ : Env) (K_ : Env → Prop) : callQ Tryd.prog nt_ dst_ (.func (.func 11) #[] #[]) [.string s, .int .i64 (i : Int)] ρ_ h K_ = putK nt_ dst_ (.int .i64 ((i + skN false (s.toList.drop i) : Nat) : Int)) ρ_ K_ := callQ_exact (by kernel_rfl) (by kernel_rfl) (skip_h s i hi hs h)
theorem skip_v (s : ByteArray) (i : Nat) (hi : i ≤ s.size) (hs : s.size ≤ 100000) (A_ : AH) : valA Tryd.prog 11 #[.string s, .int .i64 (i : Int)] A_ = some (.int .i64 ((i + skN false (s.toList.drop i) : Nat) : Int)) := pureA_e (by kernel_rfl) (by kernel_rfl) (fun h => skip_h s i hi hs h)
theorem i_eq (c k : Nat) : ((c : Int) == (k : Int)) = decide (c = k) := by rw [Bool.eq_iff_iff]; simp only [beq_iff_eq, decide_eq_true_eq]; omega
end Go.Proofs.YtilifbndbdanoaaDoor
