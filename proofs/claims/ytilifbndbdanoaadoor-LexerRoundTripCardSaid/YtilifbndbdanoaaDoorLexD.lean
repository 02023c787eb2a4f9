/-
The lexer: numbers, texts, lexemes.
Conditions: none.
-/
import Derived.Test.YtilifbndbdanoaaDoorLexC
namespace Go.Proofs.YtilifbndbdanoaaDoor
open Go.Vm
set_option linter.unusedSimpArgs false
set_option linter.unusedVariables false
set_option maxHeartbeats 1000000
set_option maxRecDepth 20000

def decV : List UInt8 → Nat → Nat
  | [], a => a
  | c :: l, a => decV l (10 * a + (c.toNat - 48))
theorem decV_ge (l : List UInt8) (a : Nat) : a ≤ decV l a := by
  induction l generalizing a with
  | nil => rw [decV]; omega
  | cons c l ih =>
    have := ih (10 * a + (c.toNat - 48))
    rw [decV]
    omega
def allDig (w : List UInt8) : Bool := w.all fun c => digitB c.toNat
def lead0 (w : List UInt8) : Bool := decide (1 < w.length) && decide (w.head? = some 48)
def numF (w : List UInt8) : Int × Int :=
  if allDig w = false then (0, 2) else if lead0 w = true then (0, 2) else if 9007199254740992 < decV w 0 then (0, 4) else ((decV w 0 : Nat), 0)
theorem dig_bounds {c : Nat} (h : digitB c = true) : 48 ≤ c ∧ c ≤ 57 := by simpa [digitB] using h
theorem cls_digit : ∀ c, c < 256 → (clsF c = 3 ∧ digitB c = true) ∨ (clsF c ≠ 3 ∧ digitB c = false) := by decide +kernel
theorem drop_all {w : List UInt8} (h : allDig w = true) {i : Nat} {c : UInt8} {l : List UInt8} (hd : w.drop i = c :: l) : digitB c.toNat = true := by
  simp only [allDig, List.all_eq_true] at h
  exact h c (List.mem_of_mem_drop (by rw [hd]; exact List.mem_cons_self ..))
theorem allDig_cons (c : UInt8) (l : List UInt8) : allDig (c :: l) = (digitB c.toNat && allDig l) := rfl
theorem number_h (s : ByteArray) (h0 : 0 < s.size) (hs : s.size ≤ 100000) (h : Heap) : CallsH Tryd.prog 21 #[.string s] h fun r h' => r = .returned (.tuple #[.int .i64 (numF s.toList).1, .int .i64 (numF s.toList).2]) ∧ h' = h := by
  refine callsH_of_den ⟨Tryd.prog, 21, Tryd.f21, 44, [0, 2, 3, 4, 5, 6, 8, 9, 28, 29], _⟩ (args := [_]) Tryd.func21 rfl Tryd.ntmps21 (by simp) ?_
  simp only [argE_nil, argE_cons, ↓vmD, vmV, vmStd, Nat.reduceMul, ↓reduceIte, Nat.reduceAdd, Nat.reduceSub, Nat.reduceEqDiff, Nat.reduceLT, Nat.reduceLeDiff, reduceCtorEq, Int.reduceToNat, Int.reduceLT, Int.reduceLE, Int.reduceEq, Int.reduceNeg, Int.reduceBEq, Int.reduceBNe, String.reduceEq, forall_const, tyS, slIndexByte_p, indexByte_p, indexRune_p, containsRune_p, slHasPrefix_p, hasPrefix_p, classOf_p, isWordByte_p, wordAt_p, skip_p]
  obtain ⟨e, he, h1, h3⟩ : ∃ (e : Nat), e = 0 ∧ e ≤ s.size ∧ allDig s.toList = allDig (s.toList.drop e) := ⟨0, rfl, by omega, rfl⟩
  rw [show (9, some (Value.int .i64 0)) = (9, some (Value.int .i64 (e : Int))) by rw [he]; rfl]
  clear he
  generalize hl : s.toList.drop e = l at h3
  induction l generalizing e with
  | nil =>
    have hlt : ((e : Int) < (s.size : Int)) = False := by have := byte_end hl; simp; omega
    have hA : allDig s.toList = true := by rw [h3]; rfl
    obtain ⟨c0, l0, hl0⟩ := drop_byte h0
    obtain ⟨_, _, _, hsl0, hb0⟩ := byte_at hl0
    have c48 : ((c0.toNat : Int) == 48) = decide (c0.toNat = 48) := i_eq c0.toNat 48
    have hlead : lead0 s.toList = (decide (1 < (s.size : Int)) && decide (c0.toNat = 48)) := by
      simp only [List.drop_zero] at hl0
      have e1 : (c0 :: l0).length = s.size := by rw [← hl0]; exact size_list s
      rw [Bool.eq_iff_iff]
      simp only [lead0, hl0, e1, List.head?_cons, Option.some.injEq, Bool.and_eq_true, decide_eq_true_eq]
      constructor
      · rintro ⟨h1, h2⟩; rw [h2]; exact ⟨by omega, rfl⟩
      · rintro ⟨h1, h2⟩; exact ⟨by omega, UInt8.toNat.inj h2⟩
    refine LoopAt.intro ?_
    cases hL : lead0 s.toList with
    | true =>
      rw [hL] at hlead
      have := hlead.symm
      simp only [Bool.and_eq_true, decide_eq_true_eq] at this
      simp only [argE_nil, argE_cons, ↓vmD, vmV, vmStd, Nat.reduceMul, ↓reduceIte, Nat.reduceAdd, Nat.reduceSub, Nat.reduceEqDiff, Nat.reduceLT, Nat.reduceLeDiff, reduceCtorEq, Int.reduceToNat, Int.reduceLT, Int.reduceLE, Int.reduceEq, Int.reduceNeg, Int.reduceBEq, Int.reduceBNe, String.reduceEq, forall_const, tyS, slIndexByte_p, indexByte_p, indexRune_p, containsRune_p, slHasPrefix_p, hasPrefix_p, classOf_p, isWordByte_p, wordAt_p, skip_p, hlt, hb0, c48, this.1, this.2]
      simp only [numF, hA, hL, if_true, Bool.true_eq_false, if_false]
    | false =>
      rw [hL] at hlead
      have h48 : (1 < (s.size : Int)) → ¬ c0.toNat = 48 := by intro h1s h; simp [h1s, h] at hlead
      by_cases h1s : (1 < (s.size : Int))
      · have := h48 h1s
        simp only [argE_nil, argE_cons, ↓vmD, vmV, vmStd, Nat.reduceMul, ↓reduceIte, Nat.reduceAdd, Nat.reduceSub, Nat.reduceEqDiff, Nat.reduceLT, Nat.reduceLeDiff, reduceCtorEq, Int.reduceToNat, Int.reduceLT, Int.reduceLE, Int.reduceEq, Int.reduceNeg, Int.reduceBEq, Int.reduceBNe, String.reduceEq, forall_const, tyS, slIndexByte_p, indexByte_p, indexRune_p, containsRune_p, slHasPrefix_p, hasPrefix_p, classOf_p, isWordByte_p, wordAt_p, skip_p, hlt, hb0, c48, h1s, this]
        obtain ⟨k, n, hk, hn, k1, k3, k4⟩ : ∃ (k n : Nat), k = 0 ∧ n = 0 ∧ k ≤ s.size ∧ decV s.toList 0 = decV (s.toList.drop k) n ∧ n ≤ 9007199254740992 := ⟨0, 0, rfl, rfl, by omega, rfl, by omega⟩
        rw [show (5, some (Value.int .i64 0)) = (5, some (Value.int .i64 (n : Int))) by rw [hn]; rfl, show (29, some (Value.int .i64 0)) = (29, some (Value.int .i64 (k : Int))) by rw [hk]; rfl]
        clear hk hn hl h1 hlt
        generalize hl : s.toList.drop k = l at k3
        induction l generalizing k n with
        | nil =>
          have hlt : ((k : Int) < (s.size : Int)) = False := by have := byte_end hl; simp; omega
          refine LoopAt.intro ?_
          simp only [argE_nil, argE_cons, ↓vmD, vmV, vmStd, Nat.reduceMul, ↓reduceIte, Nat.reduceAdd, Nat.reduceSub, Nat.reduceEqDiff, Nat.reduceLT, Nat.reduceLeDiff, reduceCtorEq, Int.reduceToNat, Int.reduceLT, Int.reduceLE, Int.reduceEq, Int.reduceNeg, Int.reduceBEq, Int.reduceBNe, String.reduceEq, forall_const, tyS, slIndexByte_p, indexByte_p, indexRune_p, containsRune_p, slHasPrefix_p, hasPrefix_p, classOf_p, isWordByte_p, wordAt_p, skip_p, hlt]
          rw [decV] at k3
          have k5 : ¬ (9007199254740992 < n) := by omega
          simp only [numF, hA, hL, if_true, Bool.true_eq_false, Bool.false_eq_true, if_false, k3, k5]
        | cons c l ih =>
          obtain ⟨hp, hc, hl', hsl, hb⟩ := byte_at hl
          have hlt : ((k : Int) < (s.size : Int)) = True := by simp; omega
          have we : IntKind.i64.wrap ((k : Int) + 1) = ((k + 1 : Nat) : Int) := by rw [w_i64 (by omega) (by omega)]; omega
          have hd := dig_bounds (drop_all hA hl)
          have w1 : IntKind.u8.wrap ((c.toNat : Int) - 48) = ((c.toNat - 48 : Nat) : Int) := by rw [w_u8 (by omega) (by omega)]; omega
          have w2 : IntKind.i64.wrap ((c.toNat - 48 : Nat) : Int) = ((c.toNat - 48 : Nat) : Int) := w_i64 (by omega) (by omega)
          have w3 : IntKind.i64.wrap (10 * (n : Int)) = ((10 * n : Nat) : Int) := by rw [w_i64 (by omega) (by omega)]; omega
          have w4 : IntKind.i64.wrap (((10 * n : Nat) : Int) + ((c.toNat - 48 : Nat) : Int)) = ((10 * n + (c.toNat - 48) : Nat) : Int) := by rw [w_i64 (by omega) (by omega)]; omega
          rw [decV] at k3
          refine LoopAt.intro ?_
          by_cases hbig : (9007199254740992 : Int) < ((10 * n + (c.toNat - 48) : Nat) : Int)
          · simp only [argE_nil, argE_cons, ↓vmD, vmV, vmStd, Nat.reduceMul, ↓reduceIte, Nat.reduceAdd, Nat.reduceSub, Nat.reduceEqDiff, Nat.reduceLT, Nat.reduceLeDiff, reduceCtorEq, Int.reduceToNat, Int.reduceLT, Int.reduceLE, Int.reduceEq, Int.reduceNeg, Int.reduceBEq, Int.reduceBNe, String.reduceEq, forall_const, tyS, slIndexByte_p, indexByte_p, indexRune_p, containsRune_p, slHasPrefix_p, hasPrefix_p, classOf_p, isWordByte_p, wordAt_p, skip_p, hlt, hb, w1, w2, w3, w4, hbig]
            have k5 : 9007199254740992 < decV s.toList 0 := by have := decV_ge l (10 * n + (c.toNat - 48)); omega
            simp only [numF, hA, hL, if_true, Bool.true_eq_false, Bool.false_eq_true, if_false, k5]
          · simp only [argE_nil, argE_cons, ↓vmD, vmV, vmStd, Nat.reduceMul, ↓reduceIte, Nat.reduceAdd, Nat.reduceSub, Nat.reduceEqDiff, Nat.reduceLT, Nat.reduceLeDiff, reduceCtorEq, Int.reduceToNat, Int.reduceLT, Int.reduceLE, Int.reduceEq, Int.reduceNeg, Int.reduceBEq, Int.reduceBNe, String.reduceEq, forall_const, tyS, slIndexByte_p, indexByte_p, indexRune_p, containsRune_p, slHasPrefix_p, hasPrefix_p, classOf_p, isWordByte_p, wordAt_p, skip_p, hlt, hb, w1, w2, w3, w4, we, hbig]
            exact LoopAt.weak (ih (k + 1) (10 * n + (c.toNat - 48)) (by omega) (by omega) hl' k3) (by simp only [subE, get_cons, Nat.reduceEqDiff, ↓reduceIte, reduceCtorEq, Nat.reduceAdd, and_self, and_true])
      · simp only [argE_nil, argE_cons, ↓vmD, vmV, vmStd, Nat.reduceMul, ↓reduceIte, Nat.reduceAdd, Nat.reduceSub, Nat.reduceEqDiff, Nat.reduceLT, Nat.reduceLeDiff, reduceCtorEq, Int.reduceToNat, Int.reduceLT, Int.reduceLE, Int.reduceEq, Int.reduceNeg, Int.reduceBEq, Int.reduceBNe, String.reduceEq, forall_const, tyS, slIndexByte_p, indexByte_p, indexRune_p, containsRune_p, slHasPrefix_p, hasPrefix_p, classOf_p, isWordByte_p, wordAt_p, skip_p, hlt, h1s]
        obtain ⟨k, n, hk, hn, k1, k3, k4⟩ : ∃ (k n : Nat), k = 0 ∧ n = 0 ∧ k ≤ s.size ∧ decV s.toList 0 = decV (s.toList.drop k) n ∧ n ≤ 9007199254740992 := ⟨0, 0, rfl, rfl, by omega, rfl, by omega⟩
        rw [show (5, some (Value.int .i64 0)) = (5, some (Value.int .i64 (n : Int))) by rw [hn]; rfl, show (29, some (Value.int .i64 0)) = (29, some (Value.int .i64 (k : Int))) by rw [hk]; rfl]
        clear hk hn hl h1 hlt
        generalize hl : s.toList.drop k = l at k3
        induction l generalizing k n with
        | nil =>
          have hlt : ((k : Int) < (s.size : Int)) = False := by have := byte_end hl; simp; omega
          refine LoopAt.intro ?_
          simp only [argE_nil, argE_cons, ↓vmD, vmV, vmStd, Nat.reduceMul, ↓reduceIte, Nat.reduceAdd, Nat.reduceSub, Nat.reduceEqDiff, Nat.reduceLT, Nat.reduceLeDiff, reduceCtorEq, Int.reduceToNat, Int.reduceLT, Int.reduceLE, Int.reduceEq, Int.reduceNeg, Int.reduceBEq, Int.reduceBNe, String.reduceEq, forall_const, tyS, slIndexByte_p, indexByte_p, indexRune_p, containsRune_p, slHasPrefix_p, hasPrefix_p, classOf_p, isWordByte_p, wordAt_p, skip_p, hlt]
          rw [decV] at k3
          have k5 : ¬ (9007199254740992 < n) := by omega
          simp only [numF, hA, hL, if_true, Bool.true_eq_false, Bool.false_eq_true, if_false, k3, k5]
        | cons c l ih =>
          obtain ⟨hp, hc, hl', hsl, hb⟩ := byte_at hl
          have hlt : ((k : Int) < (s.size : Int)) = True := by simp; omega
          have we : IntKind.i64.wrap ((k : Int) + 1) = ((k + 1 : Nat) : Int) := by rw [w_i64 (by omega) (by omega)]; omega
          have hd := dig_bounds (drop_all hA hl)
          have w1 : IntKind.u8.wrap ((c.toNat : Int) - 48) = ((c.toNat - 48 : Nat) : Int) := by rw [w_u8 (by omega) (by omega)]; omega
          have w2 : IntKind.i64.wrap ((c.toNat - 48 : Nat) : Int) = ((c.toNat - 48 : Nat) : Int) := w_i64 (by omega) (by omega)
          have w3 : IntKind.i64.wrap (10 * (n : Int)) = ((10 * n : Nat) : Int) := by rw [w_i64 (by omega) (by omega)]; omega
          have w4 : IntKind.i64.wrap (((10 * n : Nat) : Int) + ((c.toNat - 48 : Nat) : Int)) = ((10 * n + (c.toNat - 48) : Nat) : Int) := by rw [w_i64 (by omega) (by omega)]; omega
          rw [decV] at k3
          refine LoopAt.intro ?_
          by_cases hbig : (9007199254740992 : Int) < ((10 * n + (c.toNat - 48) : Nat) : Int)
          · simp only [argE_nil, argE_cons, ↓vmD, vmV, vmStd, Nat.reduceMul, ↓reduceIte, Nat.reduceAdd, Nat.reduceSub, Nat.reduceEqDiff, Nat.reduceLT, Nat.reduceLeDiff, reduceCtorEq, Int.reduceToNat, Int.reduceLT, Int.reduceLE, Int.reduceEq, Int.reduceNeg, Int.reduceBEq, Int.reduceBNe, String.reduceEq, forall_const, tyS, slIndexByte_p, indexByte_p, indexRune_p, containsRune_p, slHasPrefix_p, hasPrefix_p, classOf_p, isWordByte_p, wordAt_p, skip_p, hlt, hb, w1, w2, w3, w4, hbig]
            have k5 : 9007199254740992 < decV s.toList 0 := by have := decV_ge l (10 * n + (c.toNat - 48)); omega
            simp only [numF, hA, hL, if_true, Bool.true_eq_false, Bool.false_eq_true, if_false, k5]
          · simp only [argE_nil, argE_cons, ↓vmD, vmV, vmStd, Nat.reduceMul, ↓reduceIte, Nat.reduceAdd, Nat.reduceSub, Nat.reduceEqDiff, Nat.reduceLT, Nat.reduceLeDiff, reduceCtorEq, Int.reduceToNat, Int.reduceLT, Int.reduceLE, Int.reduceEq, Int.reduceNeg, Int.reduceBEq, Int.reduceBNe, String.reduceEq, forall_const, tyS, slIndexByte_p, indexByte_p, indexRune_p, containsRune_p, slHasPrefix_p, hasPrefix_p, classOf_p, isWordByte_p, wordAt_p, skip_p, hlt, hb, w1, w2, w3, w4, we, hbig]
            exact LoopAt.weak (ih (k + 1) (10 * n + (c.toNat - 48)) (by omega) (by omega) hl' k3) (by simp only [subE, get_cons, Nat.reduceEqDiff, ↓reduceIte, reduceCtorEq, Nat.reduceAdd, and_self, and_true])
  | cons c l ih =>
    obtain ⟨hp, hc, hl', hsl, hb⟩ := byte_at hl
    have hlt : ((e : Int) < (s.size : Int)) = True := by simp; omega
    have we : IntKind.i64.wrap ((e : Int) + 1) = ((e + 1 : Nat) : Int) := by rw [w_i64 (by omega) (by omega)]; omega
    have hcl := u8_lt c
    have w32 : IntKind.i32.wrap (c.toNat : Int) = c.toNat := w_i32 (by omega) (by omega)
    rw [allDig_cons] at h3
    refine LoopAt.intro ?_
    rcases cls_digit c.toNat hcl with ⟨k1, k2⟩ | ⟨k1, k2⟩
    · rw [k2, Bool.true_and] at h3
      simp only [argE_nil, argE_cons, ↓vmD, vmV, vmStd, Nat.reduceMul, ↓reduceIte, Nat.reduceAdd, Nat.reduceSub, Nat.reduceEqDiff, Nat.reduceLT, Nat.reduceLeDiff, reduceCtorEq, Int.reduceToNat, Int.reduceLT, Int.reduceLE, Int.reduceEq, Int.reduceNeg, Int.reduceBEq, Int.reduceBNe, String.reduceEq, forall_const, tyS, slIndexByte_p, indexByte_p, indexRune_p, containsRune_p, slHasPrefix_p, hasPrefix_p, classOf_p, isWordByte_p, wordAt_p, skip_p, hlt, hb, w32, hcl, k1, we]
      exact LoopAt.weak (ih (e + 1) (by omega) hl' h3) (by simp only [subE, get_cons, Nat.reduceEqDiff, ↓reduceIte, reduceCtorEq, Nat.reduceAdd, and_self, and_true])
    · rw [k2, Bool.false_and] at h3
      simp only [argE_nil, argE_cons, ↓vmD, vmV, vmStd, Nat.reduceMul, ↓reduceIte, Nat.reduceAdd, Nat.reduceSub, Nat.reduceEqDiff, Nat.reduceLT, Nat.reduceLeDiff, reduceCtorEq, Int.reduceToNat, Int.reduceLT, Int.reduceLE, Int.reduceEq, Int.reduceNeg, Int.reduceBEq, Int.reduceBNe, String.reduceEq, forall_const, tyS, slIndexByte_p, indexByte_p, indexRune_p, containsRune_p, slHasPrefix_p, hasPrefix_p, classOf_p, isWordByte_p, wordAt_p, skip_p, hlt, hb, w32, hcl, k1, we]
      simp only [numF, h3, if_true]
theorem number_p (s : ByteArray) (h0 : 0 < s.size) (hs : s.size ≤ 100000) (h : Heap) (Q : Ending → Heap → Prop) : CallsX Tryd.prog 21 #[.string s] h Q = Q (.returned (.tuple #[.int .i64 (numF s.toList).1, .int .i64 (numF s.toList).2])) (h) := CallsX.exact (by kernel_rfl) (number_h s h0 hs h)
theorem number_q (s : ByteArray) (h0 : 0 < s.size) (hs : s.size ≤ 100000) (h : Heap) (nt_ : Nat) (dst_ : Option Nat) (ρ_ : Env) (K_ : Env → Prop) : callQ Tryd.prog nt_ dst_ (.func (.func 21) #[] #[]) [.string s] ρ_ h K_ = putK nt_ dst_ (.tuple #[.int .i64 (numF s.toList).1, .int .i64 (numF s.toList).2]) ρ_ K_ := callQ_exact (by kernel_rfl) (by kernel_rfl) (number_h s h0 hs h)
theorem number_v (s : ByteArray) (h0 : 0 < s.size) (hs : s.size ≤ 100000) (A_ : AH) : valA Tryd.prog 21 #[.string s] A_ = some (.tuple #[.int .i64 (numF s.toList).1, .int .i64 (numF s.toList).2]) := pureA_e (by kernel_rfl) (by kernel_rfl) (fun h => number_h s h0 hs h)
end Go.Proofs.YtilifbndbdanoaaDoor
