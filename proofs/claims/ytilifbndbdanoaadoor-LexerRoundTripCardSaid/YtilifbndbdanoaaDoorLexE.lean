/-
The lexer: texts and lexemes.
Conditions: none.
-/
import Derived.Test.YtilifbndbdanoaaDoorLexD
namespace Go.Proofs.YtilifbndbdanoaaDoor
open Go.Vm
set_option linter.unusedSimpArgs false
set_option linter.unusedVariables false
set_option maxHeartbeats 1000000
set_option maxRecDepth 20000

def badC (c : UInt8) : Bool := decide (c.toNat < 32) || decide (126 < c.toNat)
def litR : List UInt8 → Option Nat
  | [] => none
  | c :: l => if c.toNat = 34 then some 0 else if badC c = true then none else match litR l with | some k => some (k + 1) | none => none
def goodL (l : List UInt8) : Bool := l.all fun c => !badC c
theorem litR_index : ∀ l : List UInt8, litR l = if Lib.indexByte l 34 < 0 then none else if goodL (l.take (Lib.indexByte l 34).toNat) = true then some (Lib.indexByte l 34).toNat else none
  | [] => by simp [litR, Lib.indexByte]
  | c :: l => by
    have ih := litR_index l
    have hge := Lib.indexByte_ge l 34
    by_cases hc : c = 34
    · subst hc
      simp [litR, Lib.indexByte, goodL]
    · have h1 : c.toNat ≠ 34 := fun h => hc (by apply UInt8.toNat.inj; exact h)
      simp only [litR, Lib.indexByte, h1, if_false, beq_iff_eq, hc, ih]
      by_cases h2 : Lib.indexByte l 34 = -1
      · simp [h2]
      · have h3 : ¬ Lib.indexByte l 34 + 1 < 0 := by omega
        have h4 : (Lib.indexByte l 34 + 1).toNat = (Lib.indexByte l 34).toNat + 1 := by omega
        have h5 : ¬ Lib.indexByte l 34 < 0 := by omega
        simp only [h2, if_false, h3, h4, h5, List.take_succ_cons, goodL, List.all_cons]
        cases badC c <;> simp
        split <;> simp_all
def litV (s : ByteArray) : ByteArray × Int := match litR (s.toList.drop 1) with | none => (⟨#[]⟩, 2) | some k => if 100 < k then (⟨#[]⟩, 3) else (s.extract 1 (1 + k), 0)
theorem literal_h (s : ByteArray) (h0 : 0 < s.size) (hs : s.size ≤ 100000) (h : Heap) : CallsH Tryd.prog 22 #[.string s] h fun r h' => r = .returned (.tuple #[.string (litV s).1, .int .i64 (litV s).2]) ∧ h' = h := by
  refine callsH_of_den ⟨Tryd.prog, 22, Tryd.f22, 36, [0, 2, 3, 4, 5, 6, 17, 18], _⟩ (args := [_]) Tryd.func22 rfl Tryd.ntmps22 (by simp) ?_
  have h1 : ((1 : Int) ≤ (s.size : Int)) = True := by simp; omega
  simp only [argE_nil, argE_cons, ↓vmD, vmV, vmStd, Nat.reduceMul, ↓reduceIte, Nat.reduceAdd, Nat.reduceSub, Nat.reduceEqDiff, Nat.reduceLT, Nat.reduceLeDiff, reduceCtorEq, Int.reduceToNat, Int.reduceLT, Int.reduceLE, Int.reduceEq, Int.reduceNeg, Int.reduceBEq, Int.reduceBNe, String.reduceEq, forall_const, tyS, slIndexByte_p, indexByte_p, indexRune_p, containsRune_p, slHasPrefix_p, hasPrefix_p, classOf_p, isWordByte_p, wordAt_p, skip_p, number_p, h1, ext_drop', show Nat.toUInt8 34 = 34 from rfl]
  by_cases hz : Lib.indexByte (s.toList.drop 1) 34 < 0
  · rw [if_pos hz]
    simp only [litV, litR_index, hz, if_true]
  rw [if_neg hz]
  obtain ⟨k, hk⟩ := Int.eq_ofNat_of_zero_le (Int.not_lt.1 hz)
  have hkl : k + 1 < s.size := by
    have h3 := index_lt (s.toList.drop 1) 34
    rw [hk, List.length_drop, size_list] at h3
    rcases h3 with h3 | h3
    · omega
    · rw [h3] at hk; simp [Lib.indexByte] at hk
  have hlit : litR (s.toList.drop 1) = if goodL ((s.toList.drop 1).take k) = true then some k else none := by
    rw [litR_index, if_neg hz, hk]
    simp
  rw [hk]
  have w1 : IntKind.i64.wrap (1 + (k : Int)) = ((1 + k : Nat) : Int) := by rw [w_i64 (by omega) (by omega)]; omega
  rw [w1]
  have hx : (s.extract 1 (1 + k)).toList = (s.toList.drop 1).take k := by
    rw [ByteArray.toList_eq, ByteArray.toList_eq, ByteArray.data_extract]
    simp
  have hxs : (s.extract 1 (1 + k)).size = k := by simp; omega
  refine ⟨⟨by omega, by omega⟩, ?_⟩
  simp only [Int.toNat_natCast]
  rw [hxs]
  rw [← hx] at hlit
  generalize hxe : s.extract 1 (1 + k) = x at *
  obtain ⟨e, he, g1, g2⟩ : ∃ (e : Nat), e = 0 ∧ e ≤ x.size ∧ goodL x.toList = goodL (x.toList.drop e) := ⟨0, rfl, by omega, rfl⟩
  rw [show (18, some (Value.int .i64 0)) = (18, some (Value.int .i64 (e : Int))) by rw [he]; rfl]
  clear he
  generalize hl : x.toList.drop e = l at g2
  induction l generalizing e with
  | nil =>
    have hlt : ((e : Int) < (k : Int)) = False := by have := byte_end hl; simp; omega
    have hG : goodL x.toList = true := by rw [g2]; rfl
    rw [hG] at hlit
    refine LoopAt.intro ?_
    simp only [argE_nil, argE_cons, ↓vmD, vmV, vmStd, Nat.reduceMul, ↓reduceIte, Nat.reduceAdd, Nat.reduceSub, Nat.reduceEqDiff, Nat.reduceLT, Nat.reduceLeDiff, reduceCtorEq, Int.reduceToNat, Int.reduceLT, Int.reduceLE, Int.reduceEq, Int.reduceNeg, Int.reduceBEq, Int.reduceBNe, String.reduceEq, forall_const, tyS, slIndexByte_p, indexByte_p, indexRune_p, containsRune_p, slHasPrefix_p, hasPrefix_p, classOf_p, isWordByte_p, wordAt_p, skip_p, number_p, hlt]
    rw [if_pos rfl] at hlit
    rw [hxs]
    have h100 : (100 < k) = (100 < (k : Int)) := by simp; omega
    split
    · rename_i h5
      simp only [litV, hlit, h100, h5, if_true]
    · rename_i h5
      simp only [litV, hlit, h100, h5, if_false, hxe]
  | cons c l ih =>
    obtain ⟨hp, hc, hl', hsl, hb⟩ := byte_at hl
    have hlt : ((e : Int) < (k : Int)) = True := by simp; omega
    have we : IntKind.i64.wrap ((e : Int) + 1) = ((e + 1 : Nat) : Int) := by rw [w_i64 (by omega) (by omega)]; omega
    simp only [goodL, List.all_cons] at g2
    refine LoopAt.intro ?_
    cases hbad : badC c with
    | true =>
      rw [hbad, Bool.not_true, Bool.false_and] at g2
      simp only [badC, Bool.or_eq_true, decide_eq_true_eq] at hbad
      have hi : ((c.toNat : Int) < 32 ∨ 126 < (c.toNat : Int)) = True := by simp; omega
      have hg : goodL x.toList = false := g2
      rw [hg, if_neg (by decide)] at hlit
      by_cases b1 : (c.toNat : Int) < 32
      · simp only [argE_nil, argE_cons, ↓vmD, vmV, vmStd, Nat.reduceMul, ↓reduceIte, Nat.reduceAdd, Nat.reduceSub, Nat.reduceEqDiff, Nat.reduceLT, Nat.reduceLeDiff, reduceCtorEq, Int.reduceToNat, Int.reduceLT, Int.reduceLE, Int.reduceEq, Int.reduceNeg, Int.reduceBEq, Int.reduceBNe, String.reduceEq, forall_const, tyS, slIndexByte_p, indexByte_p, indexRune_p, containsRune_p, slHasPrefix_p, hasPrefix_p, classOf_p, isWordByte_p, wordAt_p, skip_p, number_p, hlt, hb, b1]
        simp only [litV, hlit]
      · have b2 : 126 < (c.toNat : Int) := by omega
        simp only [argE_nil, argE_cons, ↓vmD, vmV, vmStd, Nat.reduceMul, ↓reduceIte, Nat.reduceAdd, Nat.reduceSub, Nat.reduceEqDiff, Nat.reduceLT, Nat.reduceLeDiff, reduceCtorEq, Int.reduceToNat, Int.reduceLT, Int.reduceLE, Int.reduceEq, Int.reduceNeg, Int.reduceBEq, Int.reduceBNe, String.reduceEq, forall_const, tyS, slIndexByte_p, indexByte_p, indexRune_p, containsRune_p, slHasPrefix_p, hasPrefix_p, classOf_p, isWordByte_p, wordAt_p, skip_p, number_p, hlt, hb, b1, b2]
        simp only [litV, hlit]
    | false =>
      rw [hbad, Bool.not_false, Bool.true_and] at g2
      have := ih (e + 1) (by omega) hl' g2
      simp only [badC, Bool.or_eq_false_iff, decide_eq_false_iff_not] at hbad
      have b1 : ¬ (c.toNat : Int) < 32 := by omega
      have b2 : ¬ 126 < (c.toNat : Int) := by omega
      simp only [argE_nil, argE_cons, ↓vmD, vmV, vmStd, Nat.reduceMul, ↓reduceIte, Nat.reduceAdd, Nat.reduceSub, Nat.reduceEqDiff, Nat.reduceLT, Nat.reduceLeDiff, reduceCtorEq, Int.reduceToNat, Int.reduceLT, Int.reduceLE, Int.reduceEq, Int.reduceNeg, Int.reduceBEq, Int.reduceBNe, String.reduceEq, forall_const, tyS, slIndexByte_p, indexByte_p, indexRune_p, containsRune_p, slHasPrefix_p, hasPrefix_p, classOf_p, isWordByte_p, wordAt_p, skip_p, number_p, hlt, hb, b1, b2, we]
      exact LoopAt.weak this (by simp only [subE, get_cons, Nat.reduceEqDiff, ↓reduceIte, reduceCtorEq, Nat.reduceAdd, and_self, and_true])
theorem literal_p (s : ByteArray) (h0 : 0 < s.size) (hs : s.size ≤ 100000) (h : Heap) (Q : Ending → Heap → Prop) : CallsX Tryd.prog 22 #[.string s] h Q = Q (.returned (.tuple #[.string (litV s).1, .int .i64 (litV s).2])) (h) := CallsX.exact (by kernel_rfl) (literal_h s h0 hs h)
theorem literal_q (s : ByteArray) (h0 : 0 < s.size) (hs : s.size ≤ 100000) (h : Heap) (nt_ : Nat) (dst_ : Option Nat) (ρ_ : Env) (K_ : Env → Prop) : callQ Tryd.prog nt_ dst_ (.func (.func 22) #[] #[]) [.string s] ρ_ h K_ = putK nt_ dst_ (.tuple #[.string (litV s).1, .int .i64 (litV s).2]) ρ_ K_ := callQ_exact (by kernel_rfl) (by kernel_rfl) (literal_h s h0 hs h)
theorem literal_v (s : ByteArray) (h0 : 0 < s.size) (hs : s.size ≤ 100000) (A_ : AH) : valA Tryd.prog 22 #[.string s] A_ = some (.tuple #[.string (litV s).1, .int .i64 (litV s).2]) := pureA_e (by kernel_rfl) (by kernel_rfl) (fun h => literal_h s h0 hs h)
structure LR where
  k : Int
  t : ByteArray
  n : Int
  a : Nat
  nx : Nat
  e : Int
def LR.cells (r : LR) : List Value := [.int .i64 r.k, .string r.t, .int .i64 r.n, .int .i64 r.a]
def LR.val (r : LR) : Value := .tuple #[.agg #[.int .i64 r.k, .string r.t, .int .i64 r.n, .int .i64 r.a], .int .i64 r.nx, .int .i64 r.e]
def bad (e : Int) : LR := ⟨0, ⟨#[]⟩, 0, 0, 0, e⟩
def textR (s : ByteArray) (i : Nat) : LR := match litR (s.toList.drop (i + 1)) with | none => bad 2 | some k => if 100 < k then bad 3 else ⟨3, s.extract (i + 1) (i + 1 + k), 0, i, i + k + 2, 0⟩
def pre2 (l : List UInt8) : Bool := List.isPrefixOf [33, 61] l || List.isPrefixOf [60, 61] l
def lexR (s : ByteArray) (i : Nat) : LR := match s.toList.drop i with
  | [] => bad 2
  | c :: l =>
    if pre2 (c :: l) = true then ⟨4, s.extract i (i + 2), 0, i, i + 2, 0⟩
    else if letterB c.toNat = true then (if 16 < wlen (c :: l) then bad 3 else ⟨1, s.extract i (i + wlen (c :: l)), 0, i, i + wlen (c :: l), 0⟩)
    else if digitB c.toNat = true then (if (numF (s.extract i (i + wlen (c :: l))).toList).2 ≠ 0 then bad (numF (s.extract i (i + wlen (c :: l))).toList).2 else ⟨2, ⟨#[]⟩, (numF (s.extract i (i + wlen (c :: l))).toList).1, i, i + wlen (c :: l), 0⟩)
    else if c.toNat = 34 then textR s i
    else if markB c.toNat = true then ⟨4, s.extract i (i + 1), 0, i, i + 1, 0⟩ else bad 2
theorem cls_lex : ∀ c, c < 256 → (clsF c = 2 ∧ letterB c = true ∧ wordB c = true) ∨ (clsF c = 3 ∧ letterB c = false ∧ digitB c = true ∧ wordB c = true) ∨ (clsF c = 5 ∧ letterB c = false ∧ digitB c = false ∧ c = 34) ∨
    (clsF c = 7 ∧ letterB c = false ∧ digitB c = false ∧ c ≠ 34 ∧ markB c = true) ∨ (clsF c ≠ 2 ∧ clsF c ≠ 3 ∧ clsF c ≠ 5 ∧ clsF c ≠ 7 ∧ letterB c = false ∧ digitB c = false ∧ c ≠ 34 ∧ markB c = false) := by decide +kernel
theorem mark_lib : ∀ c, c < 256 → markB c = decide (0 ≤ Lib.indexByte marks c.toUInt8) := by decide +kernel
theorem isPre2 (a b c : UInt8) (l : List UInt8) : List.isPrefixOf [a, b] (c :: l) = true → c = a ∧ l.head? = some b ∧ 0 < l.length := by
  intro h
  simp only [List.isPrefixOf, Bool.and_eq_true, beq_iff_eq] at h
  cases l with
  | nil => simp [List.isPrefixOf] at h
  | cons d l => simp [List.isPrefixOf] at h; simp [h.1, h.2]
theorem ext_ext (s : ByteArray) (i k : Nat) (h : i + 1 + k ≤ s.size) : (s.extract i s.size).extract 1 (1 + k) = s.extract (i + 1) (i + 1 + k) := by
  rw [ByteArray.extract_extract]
  congr 1
  omega
theorem litV_text (s : ByteArray) (i : Nat) (hi : i < s.size) : (litV (s.extract i s.size) = (⟨#[]⟩, 2) ∧ textR s i = bad 2) ∨ (litV (s.extract i s.size) = (⟨#[]⟩, 3) ∧ textR s i = bad 3) ∨
    ∃ k, i + 1 + k < s.size ∧ litV (s.extract i s.size) = (s.extract (i + 1) (i + 1 + k), 0) ∧ textR s i = ⟨3, s.extract (i + 1) (i + 1 + k), 0, i, i + k + 2, 0⟩ := by
  have e1 : (s.extract i s.size).toList.drop 1 = s.toList.drop (i + 1) := by rw [ext_drop, List.drop_drop]
  unfold litV textR
  rw [e1]
  cases hk : litR (s.toList.drop (i + 1)) with
  | none => exact .inl ⟨rfl, rfl⟩
  | some k =>
    simp only
    have hlt : i + 1 + k < s.size := by
      rw [litR_index] at hk
      have h3 := index_lt (s.toList.drop (i + 1)) 34
      split at hk
      · cases hk
      · split at hk
        · cases hk
          rename_i h4 _
          rcases h3 with h3 | h3
          · rw [List.length_drop, size_list] at h3; omega
          · rw [h3] at h4; simp [Lib.indexByte] at h4
        · cases hk
    split
    · exact .inr (.inl ⟨rfl, rfl⟩)
    · exact .inr (.inr ⟨k, hlt, by rw [ext_ext _ _ _ (by omega)], rfl⟩)
theorem pre_a (c : UInt8) (l : List UInt8) : (ByteArray.mk #[33, 61]).toList.isPrefixOf l = List.isPrefixOf [33, 61] l := by rw [ByteArray.toList_eq]
theorem pre_b (c : UInt8) (l : List UInt8) : (ByteArray.mk #[60, 61]).toList.isPrefixOf l = List.isPrefixOf [60, 61] l := by rw [ByteArray.toList_eq]
theorem ext_size (s : ByteArray) (i k : Nat) (h : i + k ≤ s.size) : (s.extract i (i + k)).size = k := by simp; omega
theorem lexemeAt_h (s : ByteArray) (i : Nat) (hi : i < s.size) (hs : s.size ≤ 100000) (h : Heap) : CallsH Tryd.prog 12 #[.string s, .int .i64 (i : Int)] h fun r h' => r = .returned ((lexR s i).val) ∧ Grew h h' := by
  refine callsH_of_den ⟨Tryd.prog, 12, Tryd.f12, 107, [0, 1, 4, 5, 6, 7, 8, 9, 10, 11, 12, 36], _⟩ (args := [_, _]) Tryd.func12 rfl Tryd.ntmps12 (by simp) ?_
  obtain ⟨c, l, hl⟩ := drop_byte hi
  obtain ⟨hp, hc, hl', hsl, hb⟩ := byte_at hl
  have hcl := u8_lt c
  have w32 : IntKind.i32.wrap (c.toNat : Int) = c.toNat := w_i32 (by omega) (by omega)
  have hle1 : ((i : Int) ≤ (s.size : Int)) = True := by simp; omega
  have hle0 : ((0 : Int) ≤ (i : Int)) = True := by simp
  have w1 : IntKind.i64.wrap ((i : Int) + 1) = ((i + 1 : Nat) : Int) := by rw [w_i64 (by omega) (by omega)]; omega
  have w2 : IntKind.i64.wrap ((i : Int) + 2) = ((i + 2 : Nat) : Int) := by rw [w_i64 (by omega) (by omega)]; omega
  have hle3 : ((i + 1 : Nat) : Int) ≤ (s.size : Int) := by omega
  have hle4 : ((i : Int) ≤ ((i + 1 : Nat) : Int)) = True := by simp; omega
  have hle5 : ((i : Int) ≤ ((i + 2 : Nat) : Int)) = True := by simp; omega
  have hwl : i + wlen (c :: l) ≤ s.size := by have := wlen_le (c :: l); simp only [List.length_cons] at this; omega
  have hws := ext_size s i (wlen (c :: l)) hwl
  have ww : IntKind.i64.wrap ((i : Int) + (wlen (c :: l) : Int)) = ((i + wlen (c :: l) : Nat) : Int) := by rw [w_i64 (by omega) (by omega)]; omega
  have hi' : i ≤ s.size := by omega
  by_cases hA : List.isPrefixOf [33, 61] (c :: l) = true
  · have h2 : ((i + 2 : Nat) : Int) ≤ (s.size : Int) := by have := isPre2 _ _ _ _ hA; omega
    simp only [argE_nil, argE_cons, ↓vmD, vmV, vmStd, Nat.reduceMul, ↓reduceIte, Nat.reduceAdd, Nat.reduceSub, Nat.reduceEqDiff, Nat.reduceLT, Nat.reduceLeDiff, reduceCtorEq, Int.reduceToNat, Int.reduceLT, Int.reduceLE, Int.reduceEq, Int.reduceNeg, Int.reduceBEq, Int.reduceBNe, String.reduceEq, forall_const, tyS, slIndexByte_p, indexByte_p, indexRune_p, containsRune_p, slHasPrefix_p, hasPrefix_p, classOf_p, isWordByte_p, wordAt_p, skip_p, number_p, literal_p, hle1, hle0, hb, w32, hcl, ext_drop, hl, pre_a c, pre_b c, hA, w2, h2, hle5]
    simp only [lexR, hl, pre2, hA, Bool.true_or, if_true]
    exact ⟨rfl, .push _ _⟩
  have hA' : List.isPrefixOf [33, 61] (c :: l) = false := Bool.eq_false_iff.2 hA
  by_cases hB : List.isPrefixOf [60, 61] (c :: l) = true
  · have h2 : ((i + 2 : Nat) : Int) ≤ (s.size : Int) := by have := isPre2 _ _ _ _ hB; omega
    simp only [argE_nil, argE_cons, ↓vmD, vmV, vmStd, Nat.reduceMul, ↓reduceIte, Nat.reduceAdd, Nat.reduceSub, Nat.reduceEqDiff, Nat.reduceLT, Nat.reduceLeDiff, reduceCtorEq, Int.reduceToNat, Int.reduceLT, Int.reduceLE, Int.reduceEq, Int.reduceNeg, Int.reduceBEq, Int.reduceBNe, String.reduceEq, forall_const, tyS, slIndexByte_p, indexByte_p, indexRune_p, containsRune_p, slHasPrefix_p, hasPrefix_p, classOf_p, isWordByte_p, wordAt_p, skip_p, number_p, literal_p, hle1, hle0, hb, w32, hcl, ext_drop, hl, pre_a c, pre_b c, hA', hB, w2, h2, hle5]
    simp only [lexR, hl, pre2, hA, hB, Bool.or_true, if_true]
    exact ⟨rfl, .push _ _⟩
  have hB' : List.isPrefixOf [60, 61] (c :: l) = false := Bool.eq_false_iff.2 hB
  rcases cls_lex c.toNat hcl with ⟨k0, k1, k2⟩ | ⟨k0, k1, k2, k3⟩ | ⟨k0, k1, k2, k3⟩ | ⟨k0, k1, k2, k3, k4⟩ | ⟨k0, j1, j2, j3, k1, k2, k3, k4⟩
  · have h16 : (16 < wlen (c :: l)) = (16 < (wlen (c :: l) : Int)) := by simp; omega
    by_cases h5 : 16 < (wlen (c :: l) : Int)
    · simp only [argE_nil, argE_cons, ↓vmD, vmV, vmStd, Nat.reduceMul, ↓reduceIte, Nat.reduceAdd, Nat.reduceSub, Nat.reduceEqDiff, Nat.reduceLT, Nat.reduceLeDiff, reduceCtorEq, Int.reduceToNat, Int.reduceLT, Int.reduceLE, Int.reduceEq, Int.reduceNeg, Int.reduceBEq, Int.reduceBNe, String.reduceEq, forall_const, tyS, slIndexByte_p, indexByte_p, indexRune_p, containsRune_p, slHasPrefix_p, hasPrefix_p, classOf_p, isWordByte_p, wordAt_p, skip_p, number_p, literal_p, hle1, hle0, hb, w32, hcl, ext_drop, hl, pre_a c, pre_b c, hA', hB', k0, hi', hs, hws, h5]
      simp only [lexR, hl, pre2, hA', hB', k1, Bool.or_false, Bool.false_eq_true, if_true, if_false, h16, h5]
      exact ⟨rfl, .push _ _⟩
    · simp only [argE_nil, argE_cons, ↓vmD, vmV, vmStd, Nat.reduceMul, ↓reduceIte, Nat.reduceAdd, Nat.reduceSub, Nat.reduceEqDiff, Nat.reduceLT, Nat.reduceLeDiff, reduceCtorEq, Int.reduceToNat, Int.reduceLT, Int.reduceLE, Int.reduceEq, Int.reduceNeg, Int.reduceBEq, Int.reduceBNe, String.reduceEq, forall_const, tyS, slIndexByte_p, indexByte_p, indexRune_p, containsRune_p, slHasPrefix_p, hasPrefix_p, classOf_p, isWordByte_p, wordAt_p, skip_p, number_p, literal_p, hle1, hle0, hb, w32, hcl, ext_drop, hl, pre_a c, pre_b c, hA', hB', k0, hi', hs, hws, h5, ww]
      simp only [lexR, hl, pre2, hA', hB', k1, Bool.or_false, Bool.false_eq_true, if_true, if_false, h16, h5]
      exact ⟨rfl, .push _ _⟩
  · have hw0 : 0 < wlen (c :: l) := by simp [wlen, k3]
    have hz : 0 < (s.extract i (i + wlen (c :: l))).size := by omega
    have hz2 : wlen (c :: l) ≤ 100000 := by omega
    by_cases h5 : (numF (s.extract i (i + wlen (c :: l))).toList).2 = 0
    · simp only [argE_nil, argE_cons, ↓vmD, vmV, vmStd, Nat.reduceMul, ↓reduceIte, Nat.reduceAdd, Nat.reduceSub, Nat.reduceEqDiff, Nat.reduceLT, Nat.reduceLeDiff, reduceCtorEq, Int.reduceToNat, Int.reduceLT, Int.reduceLE, Int.reduceEq, Int.reduceNeg, Int.reduceBEq, Int.reduceBNe, String.reduceEq, forall_const, tyS, slIndexByte_p, indexByte_p, indexRune_p, containsRune_p, slHasPrefix_p, hasPrefix_p, classOf_p, isWordByte_p, wordAt_p, skip_p, number_p, literal_p, hle1, hle0, hb, w32, hcl, ext_drop, hl, pre_a c, pre_b c, hA', hB', k0, hi', hs, hw0, hz2, h5, ww, hws]
      simp only [lexR, hl, pre2, hA', hB', k1, k2, Bool.or_false, Bool.false_eq_true, if_true, if_false, h5, ne_eq, not_true_eq_false]
      exact ⟨rfl, .push _ _⟩
    · simp only [argE_nil, argE_cons, ↓vmD, vmV, vmStd, Nat.reduceMul, ↓reduceIte, Nat.reduceAdd, Nat.reduceSub, Nat.reduceEqDiff, Nat.reduceLT, Nat.reduceLeDiff, reduceCtorEq, Int.reduceToNat, Int.reduceLT, Int.reduceLE, Int.reduceEq, Int.reduceNeg, Int.reduceBEq, Int.reduceBNe, String.reduceEq, forall_const, tyS, slIndexByte_p, indexByte_p, indexRune_p, containsRune_p, slHasPrefix_p, hasPrefix_p, classOf_p, isWordByte_p, wordAt_p, skip_p, number_p, literal_p, hle1, hle0, hb, w32, hcl, ext_drop, hl, pre_a c, pre_b c, hA', hB', k0, hi', hs, hw0, hz2, h5, ww, hws]
      simp only [lexR, hl, pre2, hA', hB', k1, k2, Bool.or_false, Bool.false_eq_true, if_true, if_false, h5, ne_eq, not_false_eq_true]
      exact ⟨rfl, .push _ _⟩
  · have hx0 : 0 < (s.extract i s.size).size := by simp; omega
    have hx1 : (s.extract i s.size).size ≤ 100000 := by simp; omega
    rcases litV_text s i hi with ⟨h5, h6⟩ | ⟨h5, h6⟩ | ⟨k, h4, h5, h6⟩
    · simp only [argE_nil, argE_cons, ↓vmD, vmV, vmStd, Nat.reduceMul, ↓reduceIte, Nat.reduceAdd, Nat.reduceSub, Nat.reduceEqDiff, Nat.reduceLT, Nat.reduceLeDiff, reduceCtorEq, Int.reduceToNat, Int.reduceLT, Int.reduceLE, Int.reduceEq, Int.reduceNeg, Int.reduceBEq, Int.reduceBNe, String.reduceEq, forall_const, tyS, slIndexByte_p, indexByte_p, indexRune_p, containsRune_p, slHasPrefix_p, hasPrefix_p, classOf_p, isWordByte_p, wordAt_p, skip_p, number_p, literal_p, hle1, hle0, hb, w32, hcl, ext_drop, hl, pre_a c, pre_b c, hA', hB', k0, hx0, hx1, h5]
      simp only [lexR, hl, pre2, hA', hB', k1, k2, k3, Bool.or_false, Bool.false_eq_true, if_true, if_false, h6]
      exact ⟨rfl, .push _ _⟩
    · simp only [argE_nil, argE_cons, ↓vmD, vmV, vmStd, Nat.reduceMul, ↓reduceIte, Nat.reduceAdd, Nat.reduceSub, Nat.reduceEqDiff, Nat.reduceLT, Nat.reduceLeDiff, reduceCtorEq, Int.reduceToNat, Int.reduceLT, Int.reduceLE, Int.reduceEq, Int.reduceNeg, Int.reduceBEq, Int.reduceBNe, String.reduceEq, forall_const, tyS, slIndexByte_p, indexByte_p, indexRune_p, containsRune_p, slHasPrefix_p, hasPrefix_p, classOf_p, isWordByte_p, wordAt_p, skip_p, number_p, literal_p, hle1, hle0, hb, w32, hcl, ext_drop, hl, pre_a c, pre_b c, hA', hB', k0, hx0, hx1, h5]
      simp only [lexR, hl, pre2, hA', hB', k1, k2, k3, Bool.or_false, Bool.false_eq_true, if_true, if_false, h6]
      exact ⟨rfl, .push _ _⟩
    · have hk := ext_size s (i + 1) k (by omega)
      have w5 : IntKind.i64.wrap (IntKind.i64.wrap ((i : Int) + (k : Int)) + 2) = ((i + k + 2 : Nat) : Int) := by
        rw [w_i64 (n := (i : Int) + (k : Int)) (by omega) (by omega), w_i64 (by omega) (by omega)]; omega
      simp only [argE_nil, argE_cons, ↓vmD, vmV, vmStd, Nat.reduceMul, ↓reduceIte, Nat.reduceAdd, Nat.reduceSub, Nat.reduceEqDiff, Nat.reduceLT, Nat.reduceLeDiff, reduceCtorEq, Int.reduceToNat, Int.reduceLT, Int.reduceLE, Int.reduceEq, Int.reduceNeg, Int.reduceBEq, Int.reduceBNe, String.reduceEq, forall_const, tyS, slIndexByte_p, indexByte_p, indexRune_p, containsRune_p, slHasPrefix_p, hasPrefix_p, classOf_p, isWordByte_p, wordAt_p, skip_p, number_p, literal_p, hle1, hle0, hb, w32, hcl, ext_drop, hl, pre_a c, pre_b c, hA', hB', k0, hx0, hx1, h5, hk, w5]
      simp only [lexR, hl, pre2, hA', hB', k1, k2, k3, Bool.or_false, Bool.false_eq_true, if_true, if_false, h6]
      exact ⟨rfl, .push _ _⟩
  · simp only [argE_nil, argE_cons, ↓vmD, vmV, vmStd, Nat.reduceMul, ↓reduceIte, Nat.reduceAdd, Nat.reduceSub, Nat.reduceEqDiff, Nat.reduceLT, Nat.reduceLeDiff, reduceCtorEq, Int.reduceToNat, Int.reduceLT, Int.reduceLE, Int.reduceEq, Int.reduceNeg, Int.reduceBEq, Int.reduceBNe, String.reduceEq, forall_const, tyS, slIndexByte_p, indexByte_p, indexRune_p, containsRune_p, slHasPrefix_p, hasPrefix_p, classOf_p, isWordByte_p, wordAt_p, skip_p, number_p, literal_p, hle1, hle0, hb, w32, hcl, ext_drop, hl, pre_a c, pre_b c, hA', hB', k0, w1, hle3, hle4]
    simp only [lexR, hl, pre2, hA', hB', k1, k2, k3, k4, Bool.or_false, Bool.false_eq_true, if_true, if_false]
    exact ⟨rfl, .push _ _⟩
  · simp only [argE_nil, argE_cons, ↓vmD, vmV, vmStd, Nat.reduceMul, ↓reduceIte, Nat.reduceAdd, Nat.reduceSub, Nat.reduceEqDiff, Nat.reduceLT, Nat.reduceLeDiff, reduceCtorEq, Int.reduceToNat, Int.reduceLT, Int.reduceLE, Int.reduceEq, Int.reduceNeg, Int.reduceBEq, Int.reduceBNe, String.reduceEq, forall_const, tyS, slIndexByte_p, indexByte_p, indexRune_p, containsRune_p, slHasPrefix_p, hasPrefix_p, classOf_p, isWordByte_p, wordAt_p, skip_p, number_p, literal_p, hle1, hle0, hb, w32, hcl, ext_drop, hl, pre_a c, pre_b c, hA', hB', k0, j1, j2, j3]
    simp only [lexR, hl, pre2, hA', hB', k1, k2, k3, k4, Bool.or_false, Bool.false_eq_true, if_true, if_false]
    exact ⟨rfl, .push _ _⟩
theorem lexemeAt_v (s : ByteArray) (i : Nat) (hi : i < s.size) (hs : s.size ≤ 100000) (A_ : AH) : valA Tryd.prog 12 #[.string s, .int .i64 (i : Int)] A_ = some ((lexR s i).val) := pureA_h (by kernel_rfl) (by kernel_rfl) (fun h => lexemeAt_h s i hi hs h)
end Go.Proofs.YtilifbndbdanoaaDoor
