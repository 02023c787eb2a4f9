/-
The lexer: names, numbers, texts, lexemes, Scan.
Conditions: none.
-/
import Derived.Test.YtfphceknmgadgaaDoorVmAE
import Derived.Test.YtfphceknmgadgaaDoorTy
import Derived.Test.YtfphceknmgadgaaDoorVmAppend
import Derived.Test.YtfphceknmgadgaaDoorEvo
import Derived.Lib.Bytealg
import Derived.Lib.IndexLaws
import Derived.Laws.RangeAny
set_option linter.unusedSimpArgs false
set_option linter.unusedVariables false
namespace Go.Proofs.YtfphceknmgadgaaDoor
open Go.Vm
set_option maxHeartbeats 1000000
set_option maxRecDepth 20000
theorem indexByteString_h (s : ByteArray) (c : Int) (h : Heap) (Q : Ending → Heap → Prop) (hQ : Q (.returned (.int .i64 (Lib.indexByte s.data.toList c.toNat.toUInt8))) h) :
    ExtW Tryd.prog 64 #[.string s, .int .u8 c] h Q := by
  refine ext_of (e := Extern.BytealgIndexByte.indexByte) Tryd.func64 (by kernel_rfl) (by kernel_rfl) (by kernel_rfl) (by kernel_rfl) (fun w => Lib.run_indexByteString ..) hQ
theorem slIndexByte_h (s : ByteArray) (c : Int) (h : Heap) : CallsH Tryd.prog 49 #[.string s, .int .u8 c] h fun r h' => r = .returned (.int .i64 (Lib.indexByte s.data.toList c.toNat.toUInt8)) ∧ h' = h := by
  refine callsH_of_den ⟨Tryd.prog, 49, Tryd.f49, 8, [0, 1, 4], _⟩ (args := [_, _]) Tryd.func49 rfl Tryd.ntmps49 (by simp) ?_
  simp only [evO, ↓vmD, simprocAttr, forall_const]
  refine indexByteString_h s c h _ ?_
  simp only [evO, ↓vmD, simprocAttr, forall_const]
theorem slIndexByte_p (s : ByteArray) (c : Int) (h : Heap) (Q : Ending → Heap → Prop) : CallsX Tryd.prog 49 #[.string s, .int .u8 c] h Q = Q (.returned (.int .i64 (Lib.indexByte s.data.toList c.toNat.toUInt8))) (h) := CallsX.exact (by kernel_rfl) (slIndexByte_h s c h)
theorem slIndexByte_v (s : ByteArray) (c : Int) (A_ : AH) : valA Tryd.prog 49 #[.string s, .int .u8 c] A_ = some (.int .i64 (Lib.indexByte s.data.toList c.toNat.toUInt8)) := pureA_e (by kernel_rfl) (by kernel_rfl) (fun h => slIndexByte_h s c h)
theorem indexByte_h (s : ByteArray) (c : Int) (h : Heap) : CallsH Tryd.prog 37 #[.string s, .int .u8 c] h fun r h' => r = .returned (.int .i64 (Lib.indexByte s.data.toList c.toNat.toUInt8)) ∧ h' = h := by
  refine callsH_of_den ⟨Tryd.prog, 37, Tryd.f37, 8, [0, 1, 4], _⟩ (args := [_, _]) Tryd.func37 rfl Tryd.ntmps37 (by simp) ?_
  simp only [evO, ↓vmD, simprocAttr, forall_const, slIndexByte_p]
theorem indexByte_p (s : ByteArray) (c : Int) (h : Heap) (Q : Ending → Heap → Prop) : CallsX Tryd.prog 37 #[.string s, .int .u8 c] h Q = Q (.returned (.int .i64 (Lib.indexByte s.data.toList c.toNat.toUInt8))) (h) := CallsX.exact (by kernel_rfl) (indexByte_h s c h)
theorem indexByte_v (s : ByteArray) (c : Int) (A_ : AH) : valA Tryd.prog 37 #[.string s, .int .u8 c] A_ = some (.int .i64 (Lib.indexByte s.data.toList c.toNat.toUInt8)) := pureA_e (by kernel_rfl) (by kernel_rfl) (fun h => indexByte_h s c h)
theorem indexRune_h (s : ByteArray) (c : Int) (h0 : 0 ≤ c) (h1 : c < 128) (h : Heap) : CallsH Tryd.prog 65 #[.string s, .int .i32 c] h fun r h' => r = .returned (.int .i64 (Lib.indexByte s.data.toList c.toNat.toUInt8)) ∧ h' = h := by
  refine callsH_of_den ⟨Tryd.prog, 65, Tryd.f65, 187, [0, 1, 4, 5, 6, 7, 8, 9, 10, 11, 12, 13, 14, 15, 16, 175, 176], _⟩ (args := [_, _]) Tryd.func65 rfl Tryd.ntmps65 (by simp) ?_
  have h3 : IntKind.u8.wrap c = c := w_u8 (by omega) (by omega)
  simp only [evO, ↓vmD, simprocAttr, forall_const, slIndexByte_p, indexByte_p, h0, h1, h3]
theorem indexRune_p (s : ByteArray) (c : Int) (h0 : 0 ≤ c) (h1 : c < 128) (h : Heap) (Q : Ending → Heap → Prop) : CallsX Tryd.prog 65 #[.string s, .int .i32 c] h Q = Q (.returned (.int .i64 (Lib.indexByte s.data.toList c.toNat.toUInt8))) (h) := CallsX.exact (by kernel_rfl) (indexRune_h s c h0 h1 h)
theorem indexRune_v (s : ByteArray) (c : Int) (h0 : 0 ≤ c) (h1 : c < 128) (A_ : AH) : valA Tryd.prog 65 #[.string s, .int .i32 c] A_ = some (.int .i64 (Lib.indexByte s.data.toList c.toNat.toUInt8)) := pureA_e (by kernel_rfl) (by kernel_rfl) (fun h => indexRune_h s c h0 h1 h)
theorem containsRune_h (s : ByteArray) (c : Int) (h0 : 0 ≤ c) (h1 : c < 128) (h : Heap) : CallsH Tryd.prog 50 #[.string s, .int .i32 c] h fun r h' => r = .returned (.bool (decide (0 ≤ Lib.indexByte s.data.toList c.toNat.toUInt8))) ∧ h' = h := by
  refine callsH_of_den ⟨Tryd.prog, 50, Tryd.f50, 9, [0, 1, 4], _⟩ (args := [_, _]) Tryd.func50 rfl Tryd.ntmps50 (by simp) ?_
  simp only [evO, ↓vmD, simprocAttr, forall_const, slIndexByte_p, indexByte_p, indexRune_p, h0, h1]
theorem containsRune_p (s : ByteArray) (c : Int) (h0 : 0 ≤ c) (h1 : c < 128) (h : Heap) (Q : Ending → Heap → Prop) : CallsX Tryd.prog 50 #[.string s, .int .i32 c] h Q = Q (.returned (.bool (decide (0 ≤ Lib.indexByte s.data.toList c.toNat.toUInt8)))) (h) := CallsX.exact (by kernel_rfl) (containsRune_h s c h0 h1 h)
theorem containsRune_v (s : ByteArray) (c : Int) (h0 : 0 ≤ c) (h1 : c < 128) (A_ : AH) : valA Tryd.prog 50 #[.string s, .int .i32 c] A_ = some (.bool (decide (0 ≤ Lib.indexByte s.data.toList c.toNat.toUInt8))) := pureA_e (by kernel_rfl) (by kernel_rfl) (fun h => containsRune_h s c h0 h1 h)
theorem isPrefixOf_take : ∀ (p l : List UInt8), p.isPrefixOf l = (l.take p.length == p)
  | [], l => by simp
  | a :: p, [] => by simp [List.isPrefixOf]
  | a :: p, b :: l => by
    simp only [List.isPrefixOf, List.length_cons, List.take_succ_cons, isPrefixOf_take p l]
    rw [Bool.eq_iff_iff]
    simp only [Bool.and_eq_true, beq_iff_eq, List.cons.injEq]
    exact ⟨fun ⟨x, y⟩ => ⟨x.symm, y⟩, fun ⟨x, y⟩ => ⟨x.symm, y⟩⟩
theorem prefix_extract {s p : ByteArray} (h : p.size ≤ s.size) : ((s.extract 0 p.size).toList == p.toList) = p.toList.isPrefixOf s.toList := by
  rw [isPrefixOf_take, ByteArray.toList_eq, ByteArray.toList_eq, ByteArray.toList_eq]
  have : (s.extract 0 p.size).data.toList = s.data.toList.take p.data.toList.length := by
    rw [ByteArray.data_extract]
    simp
  rw [this]
theorem prefix_long {s p : ByteArray} (h : s.size < p.size) : p.toList.isPrefixOf s.toList = false := by
  rw [isPrefixOf_take, ByteArray.toList_eq, ByteArray.toList_eq]
  rw [beq_eq_false_iff_ne]
  intro e
  have := congrArg List.length e
  simp at this
  omega
theorem slHasPrefix_h (s p : ByteArray) (h : Heap) : CallsH Tryd.prog 51 #[.string s, .string p] h fun r h' => r = .returned (.bool (p.toList.isPrefixOf s.toList)) ∧ h' = h := by
  refine callsH_of_den ⟨Tryd.prog, 51, Tryd.f51, 18, [0, 1, 4], _⟩ (args := [_, _]) Tryd.func51 rfl Tryd.ntmps51 (by simp) ?_
  by_cases hle : ((p.size : Int) ≤ (s.size : Int))
  · simp only [evO, ↓vmD, simprocAttr, forall_const, slIndexByte_p, indexByte_p, indexRune_p, containsRune_p, hle]
    rw [prefix_extract (by omega)]
  · simp only [evO, ↓vmD, simprocAttr, forall_const, slIndexByte_p, indexByte_p, indexRune_p, containsRune_p, hle]
    rw [prefix_long (by omega)]
theorem slHasPrefix_p (s p : ByteArray) (h : Heap) (Q : Ending → Heap → Prop) : CallsX Tryd.prog 51 #[.string s, .string p] h Q = Q (.returned (.bool (p.toList.isPrefixOf s.toList))) (h) := CallsX.exact (by kernel_rfl) (slHasPrefix_h s p h)
theorem slHasPrefix_v (s p : ByteArray) (A_ : AH) : valA Tryd.prog 51 #[.string s, .string p] A_ = some (.bool (p.toList.isPrefixOf s.toList)) := pureA_e (by kernel_rfl) (by kernel_rfl) (fun h => slHasPrefix_h s p h)
theorem hasPrefix_h (s p : ByteArray) (h : Heap) : CallsH Tryd.prog 40 #[.string s, .string p] h fun r h' => r = .returned (.bool (p.toList.isPrefixOf s.toList)) ∧ h' = h := by
  refine callsH_of_den ⟨Tryd.prog, 40, Tryd.f40, 8, [0, 1, 4], _⟩ (args := [_, _]) Tryd.func40 rfl Tryd.ntmps40 (by simp) ?_
  simp only [evO, ↓vmD, simprocAttr, forall_const, slIndexByte_p, indexByte_p, indexRune_p, containsRune_p, slHasPrefix_p]
theorem hasPrefix_p (s p : ByteArray) (h : Heap) (Q : Ending → Heap → Prop) : CallsX Tryd.prog 40 #[.string s, .string p] h Q = Q (.returned (.bool (p.toList.isPrefixOf s.toList))) (h) := CallsX.exact (by kernel_rfl) (hasPrefix_h s p h)
theorem hasPrefix_v (s p : ByteArray) (A_ : AH) : valA Tryd.prog 40 #[.string s, .string p] A_ = some (.bool (p.toList.isPrefixOf s.toList)) := pureA_e (by kernel_rfl) (by kernel_rfl) (fun h => hasPrefix_h s p h)
set_option maxHeartbeats 1000000
set_option maxRecDepth 20000
def blankB (c : Nat) : Bool := decide (c = 32) || decide (c = 9) || decide (c = 10)
def letterB (c : Nat) : Bool := (decide (97 ≤ c) && decide (c ≤ 122)) || (decide (65 ≤ c) && decide (c ≤ 90))
def digitB (c : Nat) : Bool := decide (48 ≤ c) && decide (c ≤ 57)
def wordB (c : Nat) : Bool := letterB c || digitB c || decide (c = 95)
def marks : List UInt8 := [40, 41, 123, 125, 44, 59, 58, 61, 60, 62, 43, 45, 42, 37, 46]
def markB (c : Nat) : Bool := decide (c ≤ 126) && decide (0 ≤ Lib.indexByte marks c.toUInt8)
def clsF (c : Nat) : Int :=
  if blankB c = true then 1 else if letterB c = true then 2 else if digitB c = true then 3 else if c = 95 then 4 else if c = 34 then 5 else if c = 35 then 6 else if markB c = true then 7 else 0
theorem classOf_h (c : Nat) (hc : c < 256) (h : Heap) : CallsH Tryd.prog 39 #[.int .i32 (c : Int)] h fun r h' => r = .returned (.int .i64 (clsF c)) ∧ h' = h := by
  refine callsH_of_den ⟨Tryd.prog, 39, Tryd.f39, 52, [0, 2], _⟩ (args := [_]) Tryd.func39 rfl Tryd.ntmps39 (by simp) ?_
  have e1 : (ByteArray.mk #[40, 41, 123, 125, 44, 59, 58, 61, 60, 62, 43, 45, 42, 37, 46]).data.toList = marks := rfl
  have e2 : (0 ≤ (c : Int)) = True := by simp
  have e4 : c.toUInt8 = Nat.toUInt8 c := rfl
  by_cases hm : (c : Int) ≤ 126
  · have e3 : ((c : Int) < 128) = True := by simp; omega
    simp only [evO, ↓vmD, simprocAttr, forall_const, slIndexByte_p, indexByte_p, indexRune_p, containsRune_p, slHasPrefix_p, hasPrefix_p, e1, e2, e3, hm, Int.toNat_natCast]
    simp only [Ending.returned.injEq, Value.int.injEq, true_and]
    clear e1 e2 e3 e4 h
    revert c
    decide +kernel
  · simp only [evO, ↓vmD, simprocAttr, forall_const, slIndexByte_p, indexByte_p, indexRune_p, containsRune_p, slHasPrefix_p, hasPrefix_p, e1, e2, hm]
    simp only [Ending.returned.injEq, Value.int.injEq, true_and]
    clear e1 e2 e4 h
    revert c
    decide +kernel
theorem classOf_p (c : Nat) (hc : c < 256) (h : Heap) (Q : Ending → Heap → Prop) : CallsX Tryd.prog 39 #[.int .i32 (c : Int)] h Q = Q (.returned (.int .i64 (clsF c))) (h) := CallsX.exact (by kernel_rfl) (classOf_h c hc h)
theorem classOf_v (c : Nat) (hc : c < 256) (A_ : AH) : valA Tryd.prog 39 #[.int .i32 (c : Int)] A_ = some (.int .i64 (clsF c)) := pureA_e (by kernel_rfl) (by kernel_rfl) (fun h => classOf_h c hc h)
set_option maxHeartbeats 1000000
set_option maxRecDepth 20000
theorem byte_at {s : ByteArray} {pos : Nat} {c : UInt8} {l : List UInt8} (h : s.toList.drop pos = c :: l) : ∃ hp : pos < s.size, s[pos]'hp = c ∧ s.toList.drop (pos + 1) = l ∧ s.size = pos + 1 + l.length ∧ s.data[pos]? = some c := by
  have hn : s.size = s.data.toList.length := rfl
  rw [ByteArray.toList_eq] at h ⊢
  have hlen : (s.data.toList.drop pos).length = l.length + 1 := by rw [h]; rfl
  have hl2 := hlen
  rw [List.length_drop, ← hn] at hl2
  have hp : pos < s.size := by omega
  have h1 := List.drop_eq_getElem_cons (l := s.data.toList) (i := pos) (by omega)
  rw [h] at h1
  simp only [List.cons.injEq] at h1
  refine ⟨hp, ?_, h1.2.symm, by omega, ?_⟩
  · rw [h1.1]; rfl
  · rw [h1.1]; simp
theorem byte_end {s : ByteArray} {pos : Nat} (h : s.toList.drop pos = []) : ¬ pos < s.size := by
  have hn : s.size = s.data.toList.length := rfl
  rw [ByteArray.toList_eq] at h
  have := congrArg List.length h
  rw [List.length_drop, ← hn] at this
  simp only [List.length_nil] at this
  omega
theorem size_list (s : ByteArray) : s.toList.length = s.size := by rw [ByteArray.toList_eq]; rfl
def wlen : List UInt8 → Nat
  | [] => 0
  | c :: l => if wordB c.toNat = true then wlen l + 1 else 0
def skN : Bool → List UInt8 → Nat
  | _, [] => 0
  | r, c :: l => if (r || (blankB c.toNat || decide (c.toNat = 35))) = true then skN ((r || decide (c.toNat = 35)) && !decide (c.toNat = 10)) l + 1 else 0
theorem wlen_le : ∀ l : List UInt8, wlen l ≤ l.length
  | [] => Nat.le_refl _
  | c :: l => by
    have := wlen_le l
    simp only [wlen, List.length_cons]
    split <;> omega
theorem skN_le : ∀ (r : Bool) (l : List UInt8), skN r l ≤ l.length
  | _, [] => Nat.le_refl _
  | r, c :: l => by
    have := skN_le ((r || decide (c.toNat = 35)) && !decide (c.toNat = 10)) l
    simp only [skN, List.length_cons]
    split <;> omega
theorem u8_lt (c : UInt8) : c.toNat < 256 := c.toNat_lt
theorem cls_word : ∀ c, c < 256 → (clsF c == 2 || clsF c == 3 || clsF c == 4) = wordB c := by decide +kernel
theorem letter_int (c : Nat) : (decide ((97 : Int) ≤ (c : Int)) && decide ((c : Int) ≤ 122) || decide ((65 : Int) ≤ (c : Int)) && decide ((c : Int) ≤ 90)) = letterB c := by
  rw [Bool.eq_iff_iff]; simp [letterB]; omega
theorem digit_int (c : Nat) : (decide ((48 : Int) ≤ (c : Int)) && decide ((c : Int) ≤ 57)) = digitB c := by
  rw [Bool.eq_iff_iff]; simp [digitB]; omega
theorem isWordByte_h (c : UInt8) (h : Heap) : CallsH Tryd.prog 52 #[.int .u8 (c.toNat : Int)] h fun r h' => r = .returned (.bool (wordB c.toNat)) ∧ h' = h := by
  refine callsH_of_den ⟨Tryd.prog, 52, Tryd.f52, 17, [0, 2, 3], _⟩ (args := [_]) Tryd.func52 rfl Tryd.ntmps52 (by simp) ?_
  have hc := u8_lt c
  have hw : IntKind.i32.wrap (c.toNat : Int) = c.toNat := w_i32 (by omega) (by omega)
  simp only [evO, ↓vmD, simprocAttr, forall_const, slIndexByte_p, indexByte_p, indexRune_p, containsRune_p, slHasPrefix_p, hasPrefix_p, classOf_p, hw, hc]
  rw [cls_word c.toNat hc]
theorem isWordByte_p (c : UInt8) (h : Heap) (Q : Ending → Heap → Prop) : CallsX Tryd.prog 52 #[.int .u8 (c.toNat : Int)] h Q = Q (.returned (.bool (wordB c.toNat))) (h) := CallsX.exact (by kernel_rfl) (isWordByte_h c h)
theorem isWordByte_v (c : UInt8) (A_ : AH) : valA Tryd.prog 52 #[.int .u8 (c.toNat : Int)] A_ = some (.bool (wordB c.toNat)) := pureA_e (by kernel_rfl) (by kernel_rfl) (fun h => isWordByte_h c h)
theorem drop_byte {s : ByteArray} {i : Nat} (h : i < s.size) : ∃ c l, s.toList.drop i = c :: l := by
  cases hl : s.toList.drop i with
  | nil => exact absurd h (byte_end hl)
  | cons c l => exact ⟨c, l, rfl⟩
theorem wordAt_h (s : ByteArray) (i : Nat) (hi : i ≤ s.size) (hs : s.size ≤ 100000) (h : Heap) : CallsH Tryd.prog 41 #[.string s, .int .i64 (i : Int)] h fun r h' => r = .returned (.string (s.extract i (i + wlen (s.toList.drop i)))) ∧ h' = h := by
  refine callsH_of_den ⟨Tryd.prog, 41, Tryd.f41, 23, [0, 1, 4, 5], _⟩ (args := [_, _]) Tryd.func41 rfl Tryd.ntmps41 (by simp) ?_
  simp only [evO, ↓vmD, simprocAttr, forall_const, slIndexByte_p, indexByte_p, indexRune_p, containsRune_p, slHasPrefix_p, hasPrefix_p, classOf_p, isWordByte_p]
  obtain ⟨e, he, h1, h2, h3⟩ : ∃ e : Nat, e = i ∧ i ≤ e ∧ e ≤ s.size ∧ i + wlen (s.toList.drop i) = e + wlen (s.toList.drop e) := ⟨i, rfl, by omega, hi, rfl⟩
  rw [show (5, some (Value.int .i64 (i : Int))) = (5, some (Value.int .i64 (e : Int))) by rw [he]]
  clear he
  generalize hl : s.toList.drop e = l at h3
  induction l generalizing e with
  | nil =>
    have hlt : ((e : Int) < (s.size : Int)) = False := by have := byte_end hl; simp; omega
    have hle : ((i : Int) ≤ (e : Int)) = True := by simp; omega
    have hle2 : ((e : Int) ≤ (s.size : Int)) = True := by simp; omega
    refine LoopAt.intro ?_
    simp only [evO, ↓vmD, simprocAttr, forall_const, slIndexByte_p, indexByte_p, indexRune_p, containsRune_p, slHasPrefix_p, hasPrefix_p, classOf_p, isWordByte_p, hlt, hle, hle2]
    rw [h3]
    rfl
  | cons c l ih =>
    obtain ⟨hp, hc, hl', hsl, hb⟩ := byte_at hl
    have hlt : ((e : Int) < (s.size : Int)) = True := by simp; omega
    have hle : ((i : Int) ≤ (e : Int)) = True := by simp; omega
    have hle2 : ((e : Int) ≤ (s.size : Int)) = True := by simp; omega
    have we : IntKind.i64.wrap ((e : Int) + 1) = ((e + 1 : Nat) : Int) := by rw [w_i64 (by omega) (by omega)]; omega
    refine LoopAt.intro ?_
    simp only [wlen] at h3
    cases hw : wordB c.toNat with
    | true =>
      rw [if_pos hw] at h3
      simp only [evO, ↓vmD, simprocAttr, forall_const, slIndexByte_p, indexByte_p, indexRune_p, containsRune_p, slHasPrefix_p, hasPrefix_p, classOf_p, isWordByte_p, hlt, hb, we, hw]
      exact LoopAt.weak (ih (e + 1) (by omega) (by omega) hl' (by omega)) (by simp only [subE, get_cons, Nat.reduceEqDiff, ↓reduceIte, reduceCtorEq, Nat.reduceAdd, and_self, and_true])
    | false =>
      rw [if_neg (by simp [hw])] at h3
      simp only [evO, ↓vmD, simprocAttr, forall_const, slIndexByte_p, indexByte_p, indexRune_p, containsRune_p, slHasPrefix_p, hasPrefix_p, classOf_p, isWordByte_p, hlt, hb, we, hw, hle, hle2]
      rw [h3]
      rfl
theorem wordAt_p (s : ByteArray) (i : Nat) (hi : i ≤ s.size) (hs : s.size ≤ 100000) (h : Heap) (Q : Ending → Heap → Prop) : CallsX Tryd.prog 41 #[.string s, .int .i64 (i : Int)] h Q = Q (.returned (.string (s.extract i (i + wlen (s.toList.drop i))))) (h) := CallsX.exact (by kernel_rfl) (wordAt_h s i hi hs h)
theorem wordAt_v (s : ByteArray) (i : Nat) (hi : i ≤ s.size) (hs : s.size ≤ 100000) (A_ : AH) : valA Tryd.prog 41 #[.string s, .int .i64 (i : Int)] A_ = some (.string (s.extract i (i + wlen (s.toList.drop i)))) := pureA_e (by kernel_rfl) (by kernel_rfl) (fun h => wordAt_h s i hi hs h)
theorem i95 (c : Nat) : ((c : Int) == 95) = decide (c = 95) := by rw [Bool.eq_iff_iff]; simp; omega
theorem skN_rem : ∀ l : List UInt8, skN true l = if Lib.indexByte l 10 = -1 then l.length else (Lib.indexByte l 10).toNat + skN false (l.drop (Lib.indexByte l 10).toNat)
  | [] => by simp [skN, Lib.indexByte]
  | c :: l => by
    have ih := skN_rem l
    have hge := Lib.indexByte_ge l 10
    by_cases hc : c = 10
    · subst hc
      simp [skN, Lib.indexByte, blankB]
    · have h1 : c.toNat ≠ 10 := fun h => hc (by apply UInt8.toNat.inj; exact h)
      simp only [skN, Lib.indexByte, Bool.true_or, if_true, Bool.true_and, decide_eq_false h1, Bool.not_false, ih, beq_iff_eq, if_neg hc]
      by_cases h2 : Lib.indexByte l 10 = -1
      · simp [h2]
      · have h3 : Lib.indexByte l 10 + 1 ≠ -1 := by omega
        have h4 : (Lib.indexByte l 10 + 1).toNat = (Lib.indexByte l 10).toNat + 1 := by omega
        simp only [h2, if_false, h3, h4, List.drop_succ_cons]
        omega
theorem skN_hash {c : UInt8} (l : List UInt8) (hc : c.toNat = 35) : skN false (c :: l) = if Lib.indexByte (c :: l) 10 = -1 then (c :: l).length else (Lib.indexByte (c :: l) 10).toNat + skN false ((c :: l).drop (Lib.indexByte (c :: l) 10).toNat) := by
  rw [← skN_rem]
  simp [skN, hc]
theorem ext_drop (s : ByteArray) (i : Nat) : (s.extract i s.size).toList = s.toList.drop i := by
  rw [ByteArray.toList_eq, ByteArray.toList_eq, ByteArray.data_extract]
  simp
  rw [List.take_of_length_le]
  simp
theorem ext_drop' (s : ByteArray) (i : Nat) : (s.extract i s.size).data.toList = s.toList.drop i := by rw [← ByteArray.toList_eq, ext_drop]
theorem cls_cases : ∀ c, c < 256 → (clsF c = 1 ∧ blankB c = true) ∨ (clsF c = 6 ∧ c = 35 ∧ blankB c = false) ∨ (clsF c ≠ 1 ∧ clsF c ≠ 6 ∧ blankB c = false ∧ c ≠ 35) := by decide +kernel
theorem index_lt : ∀ (l : List UInt8) (c : UInt8), Lib.indexByte l c < l.length ∨ l = []
  | [], _ => .inr rfl
  | a :: l, c => by
    left
    simp only [Lib.indexByte]
    rcases index_lt l c with h | h
    · split
      · simp
      · split
        · simp; omega
        · simp; omega
    · subst h; simp [Lib.indexByte]; split <;> simp
theorem skip_h (s : ByteArray) (i : Nat) (hi : i ≤ s.size) (hs : s.size ≤ 100000) (h : Heap) : CallsH Tryd.prog 24 #[.string s, .int .i64 (i : Int)] h fun r h' => r = .returned (.int .i64 ((i + skN false (s.toList.drop i) : Nat) : Int)) ∧ h' = h := by
  refine callsH_of_den ⟨Tryd.prog, 24, Tryd.f24, 34, [0, 1, 4, 5, 14], _⟩ (args := [_, _]) Tryd.func24 rfl Tryd.ntmps24 (by simp) ?_
  simp only [evO, ↓vmD, simprocAttr, forall_const, slIndexByte_p, indexByte_p, indexRune_p, containsRune_p, slHasPrefix_p, hasPrefix_p, classOf_p, isWordByte_p, wordAt_p]
  obtain ⟨e, he, h1, h2, h3⟩ : ∃ e : Nat, e = i ∧ i ≤ e ∧ e ≤ s.size ∧ i + skN false (s.toList.drop i) = e + skN false (s.toList.drop e) := ⟨i, rfl, by omega, hi, rfl⟩
  rw [show (1, some (Value.int .i64 (i : Int))) = (1, some (Value.int .i64 (e : Int))) by rw [he]]
  clear he
  obtain ⟨m, hm⟩ : ∃ m, s.size - e ≤ m := ⟨_, Nat.le_refl _⟩
  induction m generalizing e with
  | zero =>
    have hlt : ((e : Int) < (s.size : Int)) = False := by simp; omega
    refine LoopAt.intro ?_
    simp only [evO, ↓vmD, simprocAttr, forall_const, slIndexByte_p, indexByte_p, indexRune_p, containsRune_p, slHasPrefix_p, hasPrefix_p, classOf_p, isWordByte_p, wordAt_p, hlt]
    rw [h3, List.drop_of_length_le (by rw [size_list]; omega)]
    rfl
  | succ m ih =>
    cases hl : s.toList.drop e with
    | nil =>
      have hlt : ((e : Int) < (s.size : Int)) = False := by have := byte_end hl; simp; omega
      refine LoopAt.intro ?_
      simp only [evO, ↓vmD, simprocAttr, forall_const, slIndexByte_p, indexByte_p, indexRune_p, containsRune_p, slHasPrefix_p, hasPrefix_p, classOf_p, isWordByte_p, wordAt_p, hlt]
      rw [h3, hl]
      rfl
    | cons c l =>
      obtain ⟨hp, hc, hl', hsl, hb⟩ := byte_at hl
      have hlt : ((e : Int) < (s.size : Int)) = True := by simp; omega
      have hle2 : ((e : Int) ≤ (s.size : Int)) = True := by simp; omega
      have he0 : (0 ≤ (e : Int)) = True := by simp
      have we : IntKind.i64.wrap ((e : Int) + 1) = ((e + 1 : Nat) : Int) := by rw [w_i64 (by omega) (by omega)]; omega
      have w32 : IntKind.i32.wrap (c.toNat : Int) = c.toNat := w_i32 (by have := u8_lt c; omega) (by have := u8_lt c; omega)
      have hcl := u8_lt c
      refine LoopAt.intro ?_
      rw [hl] at h3
      rcases cls_cases c.toNat hcl with ⟨k1, k2⟩ | ⟨k1, k2, k3⟩ | ⟨k1, k2, k3, k4⟩
      · have k4 : c.toNat ≠ 35 := by intro h; rw [h] at k2; cases k2
        simp only [skN, k2, Bool.false_or, Bool.true_or, if_true, decide_eq_false k4, Bool.false_and] at h3
        simp only [evO, ↓vmD, simprocAttr, forall_const, slIndexByte_p, indexByte_p, indexRune_p, containsRune_p, slHasPrefix_p, hasPrefix_p, classOf_p, isWordByte_p, wordAt_p, hlt, hb, w32, hcl, k1, we]
        exact LoopAt.weak (ih (e + 1) (by omega) (by omega) (by rw [hl']; omega) (by omega)) (by simp only [subE, get_cons, Nat.reduceEqDiff, ↓reduceIte, reduceCtorEq, Nat.reduceAdd, and_self, and_true])
      · rw [skN_hash l k2] at h3
        have hx := Lib.indexByte_ge (c :: l) 10
        rcases index_lt (c :: l) 10 with hy | hy
        rotate_left
        · cases hy
        rw [← hl] at h3 hx hy
        simp only [evO, ↓vmD, simprocAttr, forall_const, slIndexByte_p, indexByte_p, indexRune_p, containsRune_p, slHasPrefix_p, hasPrefix_p, classOf_p, isWordByte_p, wordAt_p, hlt, hb, w32, hcl, k1, we, hle2, he0, ext_drop', show Nat.toUInt8 10 = 10 from rfl]
        by_cases hz : Lib.indexByte (s.toList.drop e) 10 < 0
        · simp only [evO, ↓vmD, simprocAttr, forall_const, slIndexByte_p, indexByte_p, indexRune_p, containsRune_p, slHasPrefix_p, hasPrefix_p, classOf_p, isWordByte_p, wordAt_p, hz]
          rw [if_pos (by omega), List.length_drop, size_list] at h3
          have : e + (s.size - e) = s.size := by omega
          rw [h3, this]
        · simp only [evO, ↓vmD, simprocAttr, forall_const, slIndexByte_p, indexByte_p, indexRune_p, containsRune_p, slHasPrefix_p, hasPrefix_p, classOf_p, isWordByte_p, wordAt_p, hz]
          rw [if_neg (by omega), List.drop_drop] at h3
          have hy2 : Lib.indexByte (s.toList.drop e) 10 < s.size - e := by rw [List.length_drop, size_list] at hy; omega
          obtain ⟨q, hq⟩ := Int.eq_ofNat_of_zero_le (Int.not_lt.1 hz)
          rw [hq] at h3 hy2 ⊢
          have w2 : IntKind.i64.wrap ((e : Int) + (q : Int)) = ((e + q : Nat) : Int) := by rw [w_i64 (by omega) (by omega)]; omega
          simp only [evO, ↓vmD, simprocAttr, forall_const, slIndexByte_p, indexByte_p, indexRune_p, containsRune_p, slHasPrefix_p, hasPrefix_p, classOf_p, isWordByte_p, wordAt_p, w2]
          have hq0 : 0 < q := by
            rcases Nat.eq_zero_or_pos q with h0 | h0
            · subst h0
              have := (Lib.indexByte_some hq).1
              rw [hl] at this
              simp at this
              rw [this] at k2
              cases k2
            · exact h0
          simp only [Int.toNat_natCast] at h3
          exact LoopAt.weak (ih (e + q) (by omega) (by omega) (by omega) (by omega)) (by simp only [subE, get_cons, Nat.reduceEqDiff, ↓reduceIte, reduceCtorEq, Nat.reduceAdd, and_self, and_true])
      · simp only [evO, ↓vmD, simprocAttr, forall_const, slIndexByte_p, indexByte_p, indexRune_p, containsRune_p, slHasPrefix_p, hasPrefix_p, classOf_p, isWordByte_p, wordAt_p, hlt, hb, w32, hcl, k1, k2]
        simp only [skN, k3, Bool.false_or, decide_eq_false k4, Bool.false_eq_true, if_false] at h3
        rw [h3]
        rfl
theorem skip_p (s : ByteArray) (i : Nat) (hi : i ≤ s.size) (hs : s.size ≤ 100000) (h : Heap) (Q : Ending → Heap → Prop) : CallsX Tryd.prog 24 #[.string s, .int .i64 (i : Int)] h Q = Q (.returned (.int .i64 ((i + skN false (s.toList.drop i) : Nat) : Int))) (h) := CallsX.exact (by kernel_rfl) (skip_h s i hi hs h)
theorem skip_v (s : ByteArray) (i : Nat) (hi : i ≤ s.size) (hs : s.size ≤ 100000) (A_ : AH) : valA Tryd.prog 24 #[.string s, .int .i64 (i : Int)] A_ = some (.int .i64 ((i + skN false (s.toList.drop i) : Nat) : Int)) := pureA_e (by kernel_rfl) (by kernel_rfl) (fun h => skip_h s i hi hs h)
theorem i_eq (c k : Nat) : ((c : Int) == (k : Int)) = decide (c = k) := by rw [Bool.eq_iff_iff]; simp only [beq_iff_eq, decide_eq_true_eq]; omega
set_option maxHeartbeats 1000000
set_option maxRecDepth 20000
def decV : List UInt8 → Nat → Nat
  | [], a => a
  | c :: l, a => decV l (10 * a + (c.toNat - 48))
theorem decV_ge (l : List UInt8) (a : Nat) : a ≤ decV l a := by
  induction l generalizing a with
  | nil => rw [decV]; omega
  | cons c l ih =>
    have := ih (10 * a + (c.toNat - 48))
    rw [decV]
    omega
def allDig (w : List UInt8) : Bool := w.all fun c => digitB c.toNat
def lead0 (w : List UInt8) : Bool := decide (1 < w.length) && decide (w.head? = some 48)
def numF (w : List UInt8) : Int × Int :=
  if allDig w = false then (0, 2) else if lead0 w = true then (0, 2) else if 9007199254740992 < decV w 0 then (0, 4) else ((decV w 0 : Nat), 0)
theorem dig_bounds {c : Nat} (h : digitB c = true) : 48 ≤ c ∧ c ≤ 57 := by simpa [digitB] using h
theorem cls_digit : ∀ c, c < 256 → (clsF c = 3 ∧ digitB c = true) ∨ (clsF c ≠ 3 ∧ digitB c = false) := by decide +kernel
theorem drop_all {w : List UInt8} (h : allDig w = true) {i : Nat} {c : UInt8} {l : List UInt8} (hd : w.drop i = c :: l) : digitB c.toNat = true := by
  simp only [allDig, List.all_eq_true] at h
  exact h c (List.mem_of_mem_drop (by rw [hd]; exact List.mem_cons_self ..))
theorem allDig_cons (c : UInt8) (l : List UInt8) : allDig (c :: l) = (digitB c.toNat && allDig l) := rfl
theorem number_h (s : ByteArray) (h0 : 0 < s.size) (hs : s.size ≤ 100000) (h : Heap) : CallsH Tryd.prog 42 #[.string s] h fun r h' => r = .returned (.tuple #[.int .i64 (numF s.toList).1, .int .i64 (numF s.toList).2]) ∧ h' = h := by
  refine callsH_of_den ⟨Tryd.prog, 42, Tryd.f42, 44, [0, 2, 3, 4, 5, 6, 8, 9, 28, 29], _⟩ (args := [_]) Tryd.func42 rfl Tryd.ntmps42 (by simp) ?_
  simp only [evO, ↓vmD, simprocAttr, forall_const, slIndexByte_p, indexByte_p, indexRune_p, containsRune_p, slHasPrefix_p, hasPrefix_p, classOf_p, isWordByte_p, wordAt_p, skip_p]
  obtain ⟨e, he, h1, h3⟩ : ∃ (e : Nat), e = 0 ∧ e ≤ s.size ∧ allDig s.toList = allDig (s.toList.drop e) := ⟨0, rfl, by omega, rfl⟩
  rw [show (9, some (Value.int .i64 0)) = (9, some (Value.int .i64 (e : Int))) by rw [he]; rfl]
  clear he
  generalize hl : s.toList.drop e = l at h3
  induction l generalizing e with
  | nil =>
    have hlt : ((e : Int) < (s.size : Int)) = False := by have := byte_end hl; simp; omega
    have hA : allDig s.toList = true := by rw [h3]; rfl
    obtain ⟨c0, l0, hl0⟩ := drop_byte h0
    obtain ⟨_, _, _, hsl0, hb0⟩ := byte_at hl0
    have c48 : ((c0.toNat : Int) == 48) = decide (c0.toNat = 48) := i_eq c0.toNat 48
    have hlead : lead0 s.toList = (decide (1 < (s.size : Int)) && decide (c0.toNat = 48)) := by
      simp only [List.drop_zero] at hl0
      have e1 : (c0 :: l0).length = s.size := by rw [← hl0]; exact size_list s
      rw [Bool.eq_iff_iff]
      simp only [lead0, hl0, e1, List.head?_cons, Option.some.injEq, Bool.and_eq_true, decide_eq_true_eq]
      constructor
      · rintro ⟨h1, h2⟩; rw [h2]; exact ⟨by omega, rfl⟩
      · rintro ⟨h1, h2⟩; exact ⟨by omega, UInt8.toNat.inj h2⟩
    refine LoopAt.intro ?_
    cases hL : lead0 s.toList with
    | true =>
      rw [hL] at hlead
      have := hlead.symm
      simp only [Bool.and_eq_true, decide_eq_true_eq] at this
      simp only [evO, ↓vmD, simprocAttr, forall_const, slIndexByte_p, indexByte_p, indexRune_p, containsRune_p, slHasPrefix_p, hasPrefix_p, classOf_p, isWordByte_p, wordAt_p, skip_p, hlt, hb0, c48, this.1, this.2]
      simp only [numF, hA, hL, if_true, Bool.true_eq_false, if_false]
    | false =>
      rw [hL] at hlead
      have h48 : (1 < (s.size : Int)) → ¬ c0.toNat = 48 := by intro h1s h; simp [h1s, h] at hlead
      by_cases h1s : (1 < (s.size : Int))
      · have := h48 h1s
        simp only [evO, ↓vmD, simprocAttr, forall_const, slIndexByte_p, indexByte_p, indexRune_p, containsRune_p, slHasPrefix_p, hasPrefix_p, classOf_p, isWordByte_p, wordAt_p, skip_p, hlt, hb0, c48, h1s, this]
        obtain ⟨k, n, hk, hn, k1, k3, k4⟩ : ∃ (k n : Nat), k = 0 ∧ n = 0 ∧ k ≤ s.size ∧ decV s.toList 0 = decV (s.toList.drop k) n ∧ n ≤ 9007199254740992 := ⟨0, 0, rfl, rfl, by omega, rfl, by omega⟩
        rw [show (5, some (Value.int .i64 0)) = (5, some (Value.int .i64 (n : Int))) by rw [hn]; rfl, show (29, some (Value.int .i64 0)) = (29, some (Value.int .i64 (k : Int))) by rw [hk]; rfl]
        clear hk hn hl h1 hlt
        generalize hl : s.toList.drop k = l at k3
        induction l generalizing k n with
        | nil =>
          have hlt : ((k : Int) < (s.size : Int)) = False := by have := byte_end hl; simp; omega
          refine LoopAt.intro ?_
          simp only [evO, ↓vmD, simprocAttr, forall_const, slIndexByte_p, indexByte_p, indexRune_p, containsRune_p, slHasPrefix_p, hasPrefix_p, classOf_p, isWordByte_p, wordAt_p, skip_p, hlt]
          rw [decV] at k3
          have k5 : ¬ (9007199254740992 < n) := by omega
          simp only [numF, hA, hL, if_true, Bool.true_eq_false, Bool.false_eq_true, if_false, k3, k5]
        | cons c l ih =>
          obtain ⟨hp, hc, hl', hsl, hb⟩ := byte_at hl
          have hlt : ((k : Int) < (s.size : Int)) = True := by simp; omega
          have we : IntKind.i64.wrap ((k : Int) + 1) = ((k + 1 : Nat) : Int) := by rw [w_i64 (by omega) (by omega)]; omega
          have hd := dig_bounds (drop_all hA hl)
          have w1 : IntKind.u8.wrap ((c.toNat : Int) - 48) = ((c.toNat - 48 : Nat) : Int) := by rw [w_u8 (by omega) (by omega)]; omega
          have w2 : IntKind.i64.wrap ((c.toNat - 48 : Nat) : Int) = ((c.toNat - 48 : Nat) : Int) := w_i64 (by omega) (by omega)
          have w3 : IntKind.i64.wrap (10 * (n : Int)) = ((10 * n : Nat) : Int) := by rw [w_i64 (by omega) (by omega)]; omega
          have w4 : IntKind.i64.wrap (((10 * n : Nat) : Int) + ((c.toNat - 48 : Nat) : Int)) = ((10 * n + (c.toNat - 48) : Nat) : Int) := by rw [w_i64 (by omega) (by omega)]; omega
          rw [decV] at k3
          refine LoopAt.intro ?_
          by_cases hbig : (9007199254740992 : Int) < ((10 * n + (c.toNat - 48) : Nat) : Int)
          · simp only [evO, ↓vmD, simprocAttr, forall_const, slIndexByte_p, indexByte_p, indexRune_p, containsRune_p, slHasPrefix_p, hasPrefix_p, classOf_p, isWordByte_p, wordAt_p, skip_p, hlt, hb, w1, w2, w3, w4, hbig]
            have k5 : 9007199254740992 < decV s.toList 0 := by have := decV_ge l (10 * n + (c.toNat - 48)); omega
            simp only [numF, hA, hL, if_true, Bool.true_eq_false, Bool.false_eq_true, if_false, k5]
          · simp only [evO, ↓vmD, simprocAttr, forall_const, slIndexByte_p, indexByte_p, indexRune_p, containsRune_p, slHasPrefix_p, hasPrefix_p, classOf_p, isWordByte_p, wordAt_p, skip_p, hlt, hb, w1, w2, w3, w4, we, hbig]
            exact LoopAt.weak (ih (k + 1) (10 * n + (c.toNat - 48)) (by omega) (by omega) hl' k3) (by simp only [subE, get_cons, Nat.reduceEqDiff, ↓reduceIte, reduceCtorEq, Nat.reduceAdd, and_self, and_true])
      · simp only [evO, ↓vmD, simprocAttr, forall_const, slIndexByte_p, indexByte_p, indexRune_p, containsRune_p, slHasPrefix_p, hasPrefix_p, classOf_p, isWordByte_p, wordAt_p, skip_p, hlt, h1s]
        obtain ⟨k, n, hk, hn, k1, k3, k4⟩ : ∃ (k n : Nat), k = 0 ∧ n = 0 ∧ k ≤ s.size ∧ decV s.toList 0 = decV (s.toList.drop k) n ∧ n ≤ 9007199254740992 := ⟨0, 0, rfl, rfl, by omega, rfl, by omega⟩
        rw [show (5, some (Value.int .i64 0)) = (5, some (Value.int .i64 (n : Int))) by rw [hn]; rfl, show (29, some (Value.int .i64 0)) = (29, some (Value.int .i64 (k : Int))) by rw [hk]; rfl]
        clear hk hn hl h1 hlt
        generalize hl : s.toList.drop k = l at k3
        induction l generalizing k n with
        | nil =>
          have hlt : ((k : Int) < (s.size : Int)) = False := by have := byte_end hl; simp; omega
          refine LoopAt.intro ?_
          simp only [evO, ↓vmD, simprocAttr, forall_const, slIndexByte_p, indexByte_p, indexRune_p, containsRune_p, slHasPrefix_p, hasPrefix_p, classOf_p, isWordByte_p, wordAt_p, skip_p, hlt]
          rw [decV] at k3
          have k5 : ¬ (9007199254740992 < n) := by omega
          simp only [numF, hA, hL, if_true, Bool.true_eq_false, Bool.false_eq_true, if_false, k3, k5]
        | cons c l ih =>
          obtain ⟨hp, hc, hl', hsl, hb⟩ := byte_at hl
          have hlt : ((k : Int) < (s.size : Int)) = True := by simp; omega
          have we : IntKind.i64.wrap ((k : Int) + 1) = ((k + 1 : Nat) : Int) := by rw [w_i64 (by omega) (by omega)]; omega
          have hd := dig_bounds (drop_all hA hl)
          have w1 : IntKind.u8.wrap ((c.toNat : Int) - 48) = ((c.toNat - 48 : Nat) : Int) := by rw [w_u8 (by omega) (by omega)]; omega
          have w2 : IntKind.i64.wrap ((c.toNat - 48 : Nat) : Int) = ((c.toNat - 48 : Nat) : Int) := w_i64 (by omega) (by omega)
          have w3 : IntKind.i64.wrap (10 * (n : Int)) = ((10 * n : Nat) : Int) := by rw [w_i64 (by omega) (by omega)]; omega
          have w4 : IntKind.i64.wrap (((10 * n : Nat) : Int) + ((c.toNat - 48 : Nat) : Int)) = ((10 * n + (c.toNat - 48) : Nat) : Int) := by rw [w_i64 (by omega) (by omega)]; omega
          rw [decV] at k3
          refine LoopAt.intro ?_
          by_cases hbig : (9007199254740992 : Int) < ((10 * n + (c.toNat - 48) : Nat) : Int)
          · simp only [evO, ↓vmD, simprocAttr, forall_const, slIndexByte_p, indexByte_p, indexRune_p, containsRune_p, slHasPrefix_p, hasPrefix_p, classOf_p, isWordByte_p, wordAt_p, skip_p, hlt, hb, w1, w2, w3, w4, hbig]
            have k5 : 9007199254740992 < decV s.toList 0 := by have := decV_ge l (10 * n + (c.toNat - 48)); omega
            simp only [numF, hA, hL, if_true, Bool.true_eq_false, Bool.false_eq_true, if_false, k5]
          · simp only [evO, ↓vmD, simprocAttr, forall_const, slIndexByte_p, indexByte_p, indexRune_p, containsRune_p, slHasPrefix_p, hasPrefix_p, classOf_p, isWordByte_p, wordAt_p, skip_p, hlt, hb, w1, w2, w3, w4, we, hbig]
            exact LoopAt.weak (ih (k + 1) (10 * n + (c.toNat - 48)) (by omega) (by omega) hl' k3) (by simp only [subE, get_cons, Nat.reduceEqDiff, ↓reduceIte, reduceCtorEq, Nat.reduceAdd, and_self, and_true])
  | cons c l ih =>
    obtain ⟨hp, hc, hl', hsl, hb⟩ := byte_at hl
    have hlt : ((e : Int) < (s.size : Int)) = True := by simp; omega
    have we : IntKind.i64.wrap ((e : Int) + 1) = ((e + 1 : Nat) : Int) := by rw [w_i64 (by omega) (by omega)]; omega
    have hcl := u8_lt c
    have w32 : IntKind.i32.wrap (c.toNat : Int) = c.toNat := w_i32 (by omega) (by omega)
    rw [allDig_cons] at h3
    refine LoopAt.intro ?_
    rcases cls_digit c.toNat hcl with ⟨k1, k2⟩ | ⟨k1, k2⟩
    · rw [k2, Bool.true_and] at h3
      simp only [evO, ↓vmD, simprocAttr, forall_const, slIndexByte_p, indexByte_p, indexRune_p, containsRune_p, slHasPrefix_p, hasPrefix_p, classOf_p, isWordByte_p, wordAt_p, skip_p, hlt, hb, w32, hcl, k1, we]
      exact LoopAt.weak (ih (e + 1) (by omega) hl' h3) (by simp only [subE, get_cons, Nat.reduceEqDiff, ↓reduceIte, reduceCtorEq, Nat.reduceAdd, and_self, and_true])
    · rw [k2, Bool.false_and] at h3
      simp only [evO, ↓vmD, simprocAttr, forall_const, slIndexByte_p, indexByte_p, indexRune_p, containsRune_p, slHasPrefix_p, hasPrefix_p, classOf_p, isWordByte_p, wordAt_p, skip_p, hlt, hb, w32, hcl, k1, we]
      simp only [numF, h3, if_true]
theorem number_p (s : ByteArray) (h0 : 0 < s.size) (hs : s.size ≤ 100000) (h : Heap) (Q : Ending → Heap → Prop) : CallsX Tryd.prog 42 #[.string s] h Q = Q (.returned (.tuple #[.int .i64 (numF s.toList).1, .int .i64 (numF s.toList).2])) (h) := CallsX.exact (by kernel_rfl) (number_h s h0 hs h)
theorem number_v (s : ByteArray) (h0 : 0 < s.size) (hs : s.size ≤ 100000) (A_ : AH) : valA Tryd.prog 42 #[.string s] A_ = some (.tuple #[.int .i64 (numF s.toList).1, .int .i64 (numF s.toList).2]) := pureA_e (by kernel_rfl) (by kernel_rfl) (fun h => number_h s h0 hs h)
set_option maxHeartbeats 1000000
set_option maxRecDepth 20000
def badC (c : UInt8) : Bool := decide (c.toNat < 32) || decide (126 < c.toNat)
def litR : List UInt8 → Option Nat
  | [] => none
  | c :: l => if c.toNat = 34 then some 0 else if badC c = true then none else match litR l with | some k => some (k + 1) | none => none
def goodL (l : List UInt8) : Bool := l.all fun c => !badC c
theorem litR_index : ∀ l : List UInt8, litR l = if Lib.indexByte l 34 < 0 then none else if goodL (l.take (Lib.indexByte l 34).toNat) = true then some (Lib.indexByte l 34).toNat else none
  | [] => by simp [litR, Lib.indexByte]
  | c :: l => by
    have ih := litR_index l
    have hge := Lib.indexByte_ge l 34
    by_cases hc : c = 34
    · subst hc
      simp [litR, Lib.indexByte, goodL]
    · have h1 : c.toNat ≠ 34 := fun h => hc (by apply UInt8.toNat.inj; exact h)
      simp only [litR, Lib.indexByte, h1, if_false, beq_iff_eq, hc, ih]
      by_cases h2 : Lib.indexByte l 34 = -1
      · simp [h2]
      · have h3 : ¬ Lib.indexByte l 34 + 1 < 0 := by omega
        have h4 : (Lib.indexByte l 34 + 1).toNat = (Lib.indexByte l 34).toNat + 1 := by omega
        have h5 : ¬ Lib.indexByte l 34 < 0 := by omega
        simp only [h2, if_false, h3, h4, h5, List.take_succ_cons, goodL, List.all_cons]
        cases badC c <;> simp
        split <;> simp_all
def litV (s : ByteArray) : ByteArray × Int := match litR (s.toList.drop 1) with | none => (⟨#[]⟩, 2) | some k => if 100 < k then (⟨#[]⟩, 3) else (s.extract 1 (1 + k), 0)
theorem literal_h (s : ByteArray) (h0 : 0 < s.size) (hs : s.size ≤ 100000) (h : Heap) : CallsH Tryd.prog 43 #[.string s] h fun r h' => r = .returned (.tuple #[.string (litV s).1, .int .i64 (litV s).2]) ∧ h' = h := by
  refine callsH_of_den ⟨Tryd.prog, 43, Tryd.f43, 36, [0, 2, 3, 4, 5, 6, 17, 18], _⟩ (args := [_]) Tryd.func43 rfl Tryd.ntmps43 (by simp) ?_
  have h1 : ((1 : Int) ≤ (s.size : Int)) = True := by simp; omega
  simp only [evO, ↓vmD, simprocAttr, forall_const, slIndexByte_p, indexByte_p, indexRune_p, containsRune_p, slHasPrefix_p, hasPrefix_p, classOf_p, isWordByte_p, wordAt_p, skip_p, number_p, h1, ext_drop', show Nat.toUInt8 34 = 34 from rfl]
  by_cases hz : Lib.indexByte (s.toList.drop 1) 34 < 0
  · rw [if_pos hz]
    simp only [litV, litR_index, hz, if_true]
  rw [if_neg hz]
  obtain ⟨k, hk⟩ := Int.eq_ofNat_of_zero_le (Int.not_lt.1 hz)
  have hkl : k + 1 < s.size := by
    have h3 := index_lt (s.toList.drop 1) 34
    rw [hk, List.length_drop, size_list] at h3
    rcases h3 with h3 | h3
    · omega
    · rw [h3] at hk; simp [Lib.indexByte] at hk
  have hlit : litR (s.toList.drop 1) = if goodL ((s.toList.drop 1).take k) = true then some k else none := by
    rw [litR_index, if_neg hz, hk]
    simp
  rw [hk]
  have w1 : IntKind.i64.wrap (1 + (k : Int)) = ((1 + k : Nat) : Int) := by rw [w_i64 (by omega) (by omega)]; omega
  rw [w1]
  have hx : (s.extract 1 (1 + k)).toList = (s.toList.drop 1).take k := by
    rw [ByteArray.toList_eq, ByteArray.toList_eq, ByteArray.data_extract]
    simp
  have hxs : (s.extract 1 (1 + k)).size = k := by simp; omega
  refine ⟨⟨by omega, by omega⟩, ?_⟩
  simp only [Int.toNat_natCast]
  rw [hxs]
  rw [← hx] at hlit
  generalize hxe : s.extract 1 (1 + k) = x at *
  obtain ⟨e, he, g1, g2⟩ : ∃ (e : Nat), e = 0 ∧ e ≤ x.size ∧ goodL x.toList = goodL (x.toList.drop e) := ⟨0, rfl, by omega, rfl⟩
  rw [show (18, some (Value.int .i64 0)) = (18, some (Value.int .i64 (e : Int))) by rw [he]; rfl]
  clear he
  generalize hl : x.toList.drop e = l at g2
  induction l generalizing e with
  | nil =>
    have hlt : ((e : Int) < (k : Int)) = False := by have := byte_end hl; simp; omega
    have hG : goodL x.toList = true := by rw [g2]; rfl
    rw [hG] at hlit
    refine LoopAt.intro ?_
    simp only [evO, ↓vmD, simprocAttr, forall_const, slIndexByte_p, indexByte_p, indexRune_p, containsRune_p, slHasPrefix_p, hasPrefix_p, classOf_p, isWordByte_p, wordAt_p, skip_p, number_p, hlt]
    rw [if_pos rfl] at hlit
    rw [hxs]
    have h100 : (100 < k) = (100 < (k : Int)) := by simp; omega
    split
    · rename_i h5
      simp only [litV, hlit, h100, h5, if_true]
    · rename_i h5
      simp only [litV, hlit, h100, h5, if_false, hxe]
  | cons c l ih =>
    obtain ⟨hp, hc, hl', hsl, hb⟩ := byte_at hl
    have hlt : ((e : Int) < (k : Int)) = True := by simp; omega
    have we : IntKind.i64.wrap ((e : Int) + 1) = ((e + 1 : Nat) : Int) := by rw [w_i64 (by omega) (by omega)]; omega
    simp only [goodL, List.all_cons] at g2
    refine LoopAt.intro ?_
    cases hbad : badC c with
    | true =>
      rw [hbad, Bool.not_true, Bool.false_and] at g2
      simp only [badC, Bool.or_eq_true, decide_eq_true_eq] at hbad
      have hi : ((c.toNat : Int) < 32 ∨ 126 < (c.toNat : Int)) = True := by simp; omega
      have hg : goodL x.toList = false := g2
      rw [hg, if_neg (by decide)] at hlit
      by_cases b1 : (c.toNat : Int) < 32
      · simp only [evO, ↓vmD, simprocAttr, forall_const, slIndexByte_p, indexByte_p, indexRune_p, containsRune_p, slHasPrefix_p, hasPrefix_p, classOf_p, isWordByte_p, wordAt_p, skip_p, number_p, hlt, hb, b1]
        simp only [litV, hlit]
      · have b2 : 126 < (c.toNat : Int) := by omega
        simp only [evO, ↓vmD, simprocAttr, forall_const, slIndexByte_p, indexByte_p, indexRune_p, containsRune_p, slHasPrefix_p, hasPrefix_p, classOf_p, isWordByte_p, wordAt_p, skip_p, number_p, hlt, hb, b1, b2]
        simp only [litV, hlit]
    | false =>
      rw [hbad, Bool.not_false, Bool.true_and] at g2
      have := ih (e + 1) (by omega) hl' g2
      simp only [badC, Bool.or_eq_false_iff, decide_eq_false_iff_not] at hbad
      have b1 : ¬ (c.toNat : Int) < 32 := by omega
      have b2 : ¬ 126 < (c.toNat : Int) := by omega
      simp only [evO, ↓vmD, simprocAttr, forall_const, slIndexByte_p, indexByte_p, indexRune_p, containsRune_p, slHasPrefix_p, hasPrefix_p, classOf_p, isWordByte_p, wordAt_p, skip_p, number_p, hlt, hb, b1, b2, we]
      exact LoopAt.weak this (by simp only [subE, get_cons, Nat.reduceEqDiff, ↓reduceIte, reduceCtorEq, Nat.reduceAdd, and_self, and_true])
theorem literal_p (s : ByteArray) (h0 : 0 < s.size) (hs : s.size ≤ 100000) (h : Heap) (Q : Ending → Heap → Prop) : CallsX Tryd.prog 43 #[.string s] h Q = Q (.returned (.tuple #[.string (litV s).1, .int .i64 (litV s).2])) (h) := CallsX.exact (by kernel_rfl) (literal_h s h0 hs h)
theorem literal_v (s : ByteArray) (h0 : 0 < s.size) (hs : s.size ≤ 100000) (A_ : AH) : valA Tryd.prog 43 #[.string s] A_ = some (.tuple #[.string (litV s).1, .int .i64 (litV s).2]) := pureA_e (by kernel_rfl) (by kernel_rfl) (fun h => literal_h s h0 hs h)
structure LR where
  k : Int
  t : ByteArray
  n : Int
  a : Nat
  nx : Nat
  e : Int
def LR.cells (r : LR) : List Value := [.int .i64 r.k, .string r.t, .int .i64 r.n, .int .i64 r.a]
def LR.val (r : LR) : Value := .tuple #[.agg #[.int .i64 r.k, .string r.t, .int .i64 r.n, .int .i64 r.a], .int .i64 r.nx, .int .i64 r.e]
def bad (e : Int) : LR := ⟨0, ⟨#[]⟩, 0, 0, 0, e⟩
def textR (s : ByteArray) (i : Nat) : LR := match litR (s.toList.drop (i + 1)) with | none => bad 2 | some k => if 100 < k then bad 3 else ⟨3, s.extract (i + 1) (i + 1 + k), 0, i, i + k + 2, 0⟩
def pre2 (l : List UInt8) : Bool := List.isPrefixOf [33, 61] l || List.isPrefixOf [60, 61] l
def lexR (s : ByteArray) (i : Nat) : LR := match s.toList.drop i with
  | [] => bad 2
  | c :: l =>
    if pre2 (c :: l) = true then ⟨4, s.extract i (i + 2), 0, i, i + 2, 0⟩
    else if letterB c.toNat = true then (if 16 < wlen (c :: l) then bad 3 else ⟨1, s.extract i (i + wlen (c :: l)), 0, i, i + wlen (c :: l), 0⟩)
    else if digitB c.toNat = true then (if (numF (s.extract i (i + wlen (c :: l))).toList).2 ≠ 0 then bad (numF (s.extract i (i + wlen (c :: l))).toList).2 else ⟨2, ⟨#[]⟩, (numF (s.extract i (i + wlen (c :: l))).toList).1, i, i + wlen (c :: l), 0⟩)
    else if c.toNat = 34 then textR s i
    else if markB c.toNat = true then ⟨4, s.extract i (i + 1), 0, i, i + 1, 0⟩ else bad 2
theorem cls_lex : ∀ c, c < 256 → (clsF c = 2 ∧ letterB c = true ∧ wordB c = true) ∨ (clsF c = 3 ∧ letterB c = false ∧ digitB c = true ∧ wordB c = true) ∨ (clsF c = 5 ∧ letterB c = false ∧ digitB c = false ∧ c = 34) ∨
    (clsF c = 7 ∧ letterB c = false ∧ digitB c = false ∧ c ≠ 34 ∧ markB c = true) ∨ (clsF c ≠ 2 ∧ clsF c ≠ 3 ∧ clsF c ≠ 5 ∧ clsF c ≠ 7 ∧ letterB c = false ∧ digitB c = false ∧ c ≠ 34 ∧ markB c = false) := by decide +kernel
theorem isPre2 (a b c : UInt8) (l : List UInt8) : List.isPrefixOf [a, b] (c :: l) = true → c = a ∧ l.head? = some b ∧ 0 < l.length := by
  intro h
  simp only [List.isPrefixOf, Bool.and_eq_true, beq_iff_eq] at h
  cases l with
  | nil => simp [List.isPrefixOf] at h
  | cons d l => simp [List.isPrefixOf] at h; simp [h.1, h.2]
theorem ext_ext (s : ByteArray) (i k : Nat) (h : i + 1 + k ≤ s.size) : (s.extract i s.size).extract 1 (1 + k) = s.extract (i + 1) (i + 1 + k) := by
  rw [ByteArray.extract_extract]
  congr 1
  omega
theorem litV_text (s : ByteArray) (i : Nat) (hi : i < s.size) : (litV (s.extract i s.size) = (⟨#[]⟩, 2) ∧ textR s i = bad 2) ∨ (litV (s.extract i s.size) = (⟨#[]⟩, 3) ∧ textR s i = bad 3) ∨
    ∃ k, i + 1 + k < s.size ∧ litV (s.extract i s.size) = (s.extract (i + 1) (i + 1 + k), 0) ∧ textR s i = ⟨3, s.extract (i + 1) (i + 1 + k), 0, i, i + k + 2, 0⟩ := by
  have e1 : (s.extract i s.size).toList.drop 1 = s.toList.drop (i + 1) := by rw [ext_drop, List.drop_drop]
  unfold litV textR
  rw [e1]
  cases hk : litR (s.toList.drop (i + 1)) with
  | none => exact .inl ⟨rfl, rfl⟩
  | some k =>
    simp only
    have hlt : i + 1 + k < s.size := by
      rw [litR_index] at hk
      have h3 := index_lt (s.toList.drop (i + 1)) 34
      split at hk
      · cases hk
      · split at hk
        · cases hk
          rename_i h4 _
          rcases h3 with h3 | h3
          · rw [List.length_drop, size_list] at h3; omega
          · rw [h3] at h4; simp [Lib.indexByte] at h4
        · cases hk
    split
    · exact .inr (.inl ⟨rfl, rfl⟩)
    · exact .inr (.inr ⟨k, hlt, by rw [ext_ext _ _ _ (by omega)], rfl⟩)
theorem pre_a (c : UInt8) (l : List UInt8) : (ByteArray.mk #[33, 61]).toList.isPrefixOf l = List.isPrefixOf [33, 61] l := by rw [ByteArray.toList_eq]
theorem pre_b (c : UInt8) (l : List UInt8) : (ByteArray.mk #[60, 61]).toList.isPrefixOf l = List.isPrefixOf [60, 61] l := by rw [ByteArray.toList_eq]
theorem ext_size (s : ByteArray) (i k : Nat) (h : i + k ≤ s.size) : (s.extract i (i + k)).size = k := by simp; omega
theorem lexemeAt_h (s : ByteArray) (i : Nat) (hi : i < s.size) (hs : s.size ≤ 100000) (h : Heap) : CallsH Tryd.prog 25 #[.string s, .int .i64 (i : Int)] h fun r h' => r = .returned ((lexR s i).val) ∧ Grew h h' := by
  refine callsH_of_den ⟨Tryd.prog, 25, Tryd.f25, 107, [0, 1, 4, 5, 6, 7, 8, 9, 10, 11, 12, 36], _⟩ (args := [_, _]) Tryd.func25 rfl Tryd.ntmps25 (by simp) ?_
  obtain ⟨c, l, hl⟩ := drop_byte hi
  obtain ⟨hp, hc, hl', hsl, hb⟩ := byte_at hl
  have hcl := u8_lt c
  have w32 : IntKind.i32.wrap (c.toNat : Int) = c.toNat := w_i32 (by omega) (by omega)
  have hle1 : ((i : Int) ≤ (s.size : Int)) = True := by simp; omega
  have hle0 : ((0 : Int) ≤ (i : Int)) = True := by simp
  have w1 : IntKind.i64.wrap ((i : Int) + 1) = ((i + 1 : Nat) : Int) := by rw [w_i64 (by omega) (by omega)]; omega
  have w2 : IntKind.i64.wrap ((i : Int) + 2) = ((i + 2 : Nat) : Int) := by rw [w_i64 (by omega) (by omega)]; omega
  have hle3 : ((i + 1 : Nat) : Int) ≤ (s.size : Int) := by omega
  have hle4 : ((i : Int) ≤ ((i + 1 : Nat) : Int)) = True := by simp; omega
  have hle5 : ((i : Int) ≤ ((i + 2 : Nat) : Int)) = True := by simp; omega
  have hwl : i + wlen (c :: l) ≤ s.size := by have := wlen_le (c :: l); simp only [List.length_cons] at this; omega
  have hws := ext_size s i (wlen (c :: l)) hwl
  have ww : IntKind.i64.wrap ((i : Int) + (wlen (c :: l) : Int)) = ((i + wlen (c :: l) : Nat) : Int) := by rw [w_i64 (by omega) (by omega)]; omega
  have hi' : i ≤ s.size := by omega
  by_cases hA : List.isPrefixOf [33, 61] (c :: l) = true
  · have h2 : ((i + 2 : Nat) : Int) ≤ (s.size : Int) := by have := isPre2 _ _ _ _ hA; omega
    simp only [evO, ↓vmD, simprocAttr, forall_const, slIndexByte_p, indexByte_p, indexRune_p, containsRune_p, slHasPrefix_p, hasPrefix_p, classOf_p, isWordByte_p, wordAt_p, skip_p, number_p, literal_p, hle1, hle0, hb, w32, hcl, ext_drop, hl, pre_a c, pre_b c, hA, w2, h2, hle5]
    simp only [lexR, hl, pre2, hA, Bool.true_or, if_true]
    exact ⟨rfl, .push _ _⟩
  have hA' : List.isPrefixOf [33, 61] (c :: l) = false := Bool.eq_false_iff.2 hA
  by_cases hB : List.isPrefixOf [60, 61] (c :: l) = true
  · have h2 : ((i + 2 : Nat) : Int) ≤ (s.size : Int) := by have := isPre2 _ _ _ _ hB; omega
    simp only [evO, ↓vmD, simprocAttr, forall_const, slIndexByte_p, indexByte_p, indexRune_p, containsRune_p, slHasPrefix_p, hasPrefix_p, classOf_p, isWordByte_p, wordAt_p, skip_p, number_p, literal_p, hle1, hle0, hb, w32, hcl, ext_drop, hl, pre_a c, pre_b c, hA', hB, w2, h2, hle5]
    simp only [lexR, hl, pre2, hA, hB, Bool.or_true, if_true]
    exact ⟨rfl, .push _ _⟩
  have hB' : List.isPrefixOf [60, 61] (c :: l) = false := Bool.eq_false_iff.2 hB
  rcases cls_lex c.toNat hcl with ⟨k0, k1, k2⟩ | ⟨k0, k1, k2, k3⟩ | ⟨k0, k1, k2, k3⟩ | ⟨k0, k1, k2, k3, k4⟩ | ⟨k0, j1, j2, j3, k1, k2, k3, k4⟩
  · have h16 : (16 < wlen (c :: l)) = (16 < (wlen (c :: l) : Int)) := by simp; omega
    by_cases h5 : 16 < (wlen (c :: l) : Int)
    · simp only [evO, ↓vmD, simprocAttr, forall_const, slIndexByte_p, indexByte_p, indexRune_p, containsRune_p, slHasPrefix_p, hasPrefix_p, classOf_p, isWordByte_p, wordAt_p, skip_p, number_p, literal_p, hle1, hle0, hb, w32, hcl, ext_drop, hl, pre_a c, pre_b c, hA', hB', k0, hi', hs, hws, h5]
      simp only [lexR, hl, pre2, hA', hB', k1, Bool.or_false, Bool.false_eq_true, if_true, if_false, h16, h5]
      exact ⟨rfl, .push _ _⟩
    · simp only [evO, ↓vmD, simprocAttr, forall_const, slIndexByte_p, indexByte_p, indexRune_p, containsRune_p, slHasPrefix_p, hasPrefix_p, classOf_p, isWordByte_p, wordAt_p, skip_p, number_p, literal_p, hle1, hle0, hb, w32, hcl, ext_drop, hl, pre_a c, pre_b c, hA', hB', k0, hi', hs, hws, h5, ww]
      simp only [lexR, hl, pre2, hA', hB', k1, Bool.or_false, Bool.false_eq_true, if_true, if_false, h16, h5]
      exact ⟨rfl, .push _ _⟩
  · have hw0 : 0 < wlen (c :: l) := by simp [wlen, k3]
    have hz : 0 < (s.extract i (i + wlen (c :: l))).size := by omega
    have hz2 : wlen (c :: l) ≤ 100000 := by omega
    by_cases h5 : (numF (s.extract i (i + wlen (c :: l))).toList).2 = 0
    · simp only [evO, ↓vmD, simprocAttr, forall_const, slIndexByte_p, indexByte_p, indexRune_p, containsRune_p, slHasPrefix_p, hasPrefix_p, classOf_p, isWordByte_p, wordAt_p, skip_p, number_p, literal_p, hle1, hle0, hb, w32, hcl, ext_drop, hl, pre_a c, pre_b c, hA', hB', k0, hi', hs, hw0, hz2, h5, ww, hws]
      simp only [lexR, hl, pre2, hA', hB', k1, k2, Bool.or_false, Bool.false_eq_true, if_true, if_false, h5, ne_eq, not_true_eq_false]
      exact ⟨rfl, .push _ _⟩
    · simp only [evO, ↓vmD, simprocAttr, forall_const, slIndexByte_p, indexByte_p, indexRune_p, containsRune_p, slHasPrefix_p, hasPrefix_p, classOf_p, isWordByte_p, wordAt_p, skip_p, number_p, literal_p, hle1, hle0, hb, w32, hcl, ext_drop, hl, pre_a c, pre_b c, hA', hB', k0, hi', hs, hw0, hz2, h5, ww, hws]
      simp only [lexR, hl, pre2, hA', hB', k1, k2, Bool.or_false, Bool.false_eq_true, if_true, if_false, h5, ne_eq, not_false_eq_true]
      exact ⟨rfl, .push _ _⟩
  · have hx0 : 0 < (s.extract i s.size).size := by simp; omega
    have hx1 : (s.extract i s.size).size ≤ 100000 := by simp; omega
    rcases litV_text s i hi with ⟨h5, h6⟩ | ⟨h5, h6⟩ | ⟨k, h4, h5, h6⟩
    · simp only [evO, ↓vmD, simprocAttr, forall_const, slIndexByte_p, indexByte_p, indexRune_p, containsRune_p, slHasPrefix_p, hasPrefix_p, classOf_p, isWordByte_p, wordAt_p, skip_p, number_p, literal_p, hle1, hle0, hb, w32, hcl, ext_drop, hl, pre_a c, pre_b c, hA', hB', k0, hx0, hx1, h5]
      simp only [lexR, hl, pre2, hA', hB', k1, k2, k3, Bool.or_false, Bool.false_eq_true, if_true, if_false, h6]
      exact ⟨rfl, .push _ _⟩
    · simp only [evO, ↓vmD, simprocAttr, forall_const, slIndexByte_p, indexByte_p, indexRune_p, containsRune_p, slHasPrefix_p, hasPrefix_p, classOf_p, isWordByte_p, wordAt_p, skip_p, number_p, literal_p, hle1, hle0, hb, w32, hcl, ext_drop, hl, pre_a c, pre_b c, hA', hB', k0, hx0, hx1, h5]
      simp only [lexR, hl, pre2, hA', hB', k1, k2, k3, Bool.or_false, Bool.false_eq_true, if_true, if_false, h6]
      exact ⟨rfl, .push _ _⟩
    · have hk := ext_size s (i + 1) k (by omega)
      have w5 : IntKind.i64.wrap (IntKind.i64.wrap ((i : Int) + (k : Int)) + 2) = ((i + k + 2 : Nat) : Int) := by
        rw [w_i64 (n := (i : Int) + (k : Int)) (by omega) (by omega), w_i64 (by omega) (by omega)]; omega
      simp only [evO, ↓vmD, simprocAttr, forall_const, slIndexByte_p, indexByte_p, indexRune_p, containsRune_p, slHasPrefix_p, hasPrefix_p, classOf_p, isWordByte_p, wordAt_p, skip_p, number_p, literal_p, hle1, hle0, hb, w32, hcl, ext_drop, hl, pre_a c, pre_b c, hA', hB', k0, hx0, hx1, h5, hk, w5]
      simp only [lexR, hl, pre2, hA', hB', k1, k2, k3, Bool.or_false, Bool.false_eq_true, if_true, if_false, h6]
      exact ⟨rfl, .push _ _⟩
  · simp only [evO, ↓vmD, simprocAttr, forall_const, slIndexByte_p, indexByte_p, indexRune_p, containsRune_p, slHasPrefix_p, hasPrefix_p, classOf_p, isWordByte_p, wordAt_p, skip_p, number_p, literal_p, hle1, hle0, hb, w32, hcl, ext_drop, hl, pre_a c, pre_b c, hA', hB', k0, w1, hle3, hle4]
    simp only [lexR, hl, pre2, hA', hB', k1, k2, k3, k4, Bool.or_false, Bool.false_eq_true, if_true, if_false]
    exact ⟨rfl, .push _ _⟩
  · simp only [evO, ↓vmD, simprocAttr, forall_const, slIndexByte_p, indexByte_p, indexRune_p, containsRune_p, slHasPrefix_p, hasPrefix_p, classOf_p, isWordByte_p, wordAt_p, skip_p, number_p, literal_p, hle1, hle0, hb, w32, hcl, ext_drop, hl, pre_a c, pre_b c, hA', hB', k0, j1, j2, j3]
    simp only [lexR, hl, pre2, hA', hB', k1, k2, k3, k4, Bool.or_false, Bool.false_eq_true, if_true, if_false]
    exact ⟨rfl, .push _ _⟩
theorem lexemeAt_v (s : ByteArray) (i : Nat) (hi : i < s.size) (hs : s.size ≤ 100000) (A_ : AH) : valA Tryd.prog 25 #[.string s, .int .i64 (i : Int)] A_ = some ((lexR s i).val) := pureA_h (by kernel_rfl) (by kernel_rfl) (fun h => lexemeAt_h s i hi hs h)
set_option maxHeartbeats 1000000
set_option maxRecDepth 20000
set_option maxHeartbeats 1000000
set_option maxRecDepth 20000
def endR (s : ByteArray) : LR := ⟨0, ⟨#[]⟩, 0, s.size, 0, 0⟩
def scanG (s : ByteArray) : Nat → Nat → Int × Nat × List LR
  | 0, _ => (0, 0, [])
  | f + 1, i => if s.size ≤ i then (0, 0, [endR s]) else if (lexR s i).e ≠ 0 then ((lexR s i).e, i, []) else
      ((scanG s f ((lexR s i).nx + skN false (s.toList.drop (lexR s i).nx))).1, (scanG s f ((lexR s i).nx + skN false (s.toList.drop (lexR s i).nx))).2.1,
        if (scanG s f ((lexR s i).nx + skN false (s.toList.drop (lexR s i).nx))).1 = 0 then lexR s i :: (scanG s f ((lexR s i).nx + skN false (s.toList.drop (lexR s i).nx))).2.2 else [])
def scanF (s : ByteArray) : Int × Nat × List LR := if 4000 < s.size then (3, 0, []) else scanG s (s.size + 1) (skN false s.toList)
def cellsL (l : List LR) : List Value := l.flatMap LR.cells
def Scanned (R : Int × Nat × List LR) (h : Heap) (r : Ending) (h' : Heap) : Prop := ∃ v, r = .returned (.tuple #[v, .int .i64 R.1, .int .i64 R.2.1]) ∧ OwnH h' h.size 49 4 v R.2.2.length (cellsL R.2.2) ∧ Grew h h'
theorem sc0 : sliceCells Tryd.prog 42 0 [] = some (49, #[]) := by kernel_rfl
theorem sc1 (a b c d : Value) : sliceCells Tryd.prog 42 1 [(0, .agg #[a, b, c, d])] = some (49, #[a, b, c, d]) := by kernel_rfl
theorem lexR_next (s : ByteArray) (i : Nat) (hi : i < s.size) (h0 : (lexR s i).e = 0) : i < (lexR s i).nx ∧ (lexR s i).nx ≤ s.size := by
  obtain ⟨c, l, hl⟩ := drop_byte hi
  obtain ⟨hp, hc, hl', hsl, hb⟩ := byte_at hl
  have hwl : i + wlen (c :: l) ≤ s.size := by have := wlen_le (c :: l); simp only [List.length_cons] at this; omega
  revert h0
  unfold lexR
  rw [hl]
  simp only
  split
  · rename_i h1
    have : 0 < l.length := by
      simp only [pre2, Bool.or_eq_true] at h1
      rcases h1 with h1 | h1 <;> exact (isPre2 _ _ _ _ h1).2.2
    intro _; simp only; omega
  split
  · rename_i h1
    split
    · intro h; cases h
    · have : 0 < wlen (c :: l) := by simp [wlen, wordB, h1]
      intro _; simp only; omega
  split
  · rename_i h1
    split
    · intro h; rename_i h2; exact absurd h h2
    · have : 0 < wlen (c :: l) := by simp [wlen, wordB, h1]
      intro _; simp only; omega
  split
  · rcases litV_text s i hi with ⟨_, h6⟩ | ⟨_, h6⟩ | ⟨k, h4, _, h6⟩
    · rw [h6]; intro h; cases h
    · rw [h6]; intro h; cases h
    · rw [h6]; intro _; simp only; omega
  split
  · intro _; simp only; omega
  · intro h; cases h
theorem skN_end (s : ByteArray) (i : Nat) (hi : i ≤ s.size) : i + skN false (s.toList.drop i) ≤ s.size := by
  have := skN_le false (s.toList.drop i)
  rw [List.length_drop, size_list] at this
  omega
def More (s : ByteArray) (R : Int × Nat × List LR) (acc : List LR) (m i : Nat) : Prop := s.size < i + m ∧ R = ((scanG s m i).1, (scanG s m i).2.1, if (scanG s m i).1 = 0 then acc ++ (scanG s m i).2.2 else [])
theorem More.last {s : ByteArray} {R : Int × Nat × List LR} {acc : List LR} {m i : Nat} (h : More s R acc m i) (hi : i ≤ s.size) (hn : ¬ i < s.size) : R = (0, 0, acc ++ [endR s]) := by
  obtain ⟨h1, rfl⟩ := h
  cases m with
  | zero => omega
  | succ m =>
    have : s.size ≤ i := by omega
    simp [scanG, this]
theorem More.err {s : ByteArray} {R : Int × Nat × List LR} {acc : List LR} {m i : Nat} (h : More s R acc m i) (hi : i < s.size) (he : ¬ (lexR s i).e = 0) : R = ((lexR s i).e, i, []) := by
  obtain ⟨h1, rfl⟩ := h
  cases m with
  | zero => omega
  | succ m =>
    have : ¬ s.size ≤ i := by omega
    simp [scanG, this, he]
theorem More.next {s : ByteArray} {R : Int × Nat × List LR} {acc : List LR} {m i : Nat} (h : More s R acc m i) (hi : i < s.size) (he : (lexR s i).e = 0) : ∃ m', m = m' + 1 ∧ More s R (acc ++ [lexR s i]) m' ((lexR s i).nx + skN false (s.toList.drop (lexR s i).nx)) := by
  obtain ⟨h1, rfl⟩ := h
  cases m with
  | zero => omega
  | succ m =>
    refine ⟨m, rfl, ?_, ?_⟩
    · have := lexR_next s i hi he; omega
    have : ¬ s.size ≤ i := by omega
    simp only [scanG, this, if_false, he, ne_eq, not_true_eq_false]
    split <;> simp
theorem scan_h (s : ByteArray) (hs : s.size ≤ 100000) (h : Heap) : CallsH Tryd.prog 11 #[.string s] h (Scanned (scanF s) h) := by
  refine callsH_of_den ⟨Tryd.prog, 11, Tryd.f11, 44, [0, 2, 3, 4, 5, 6, 7, 8, 9], _⟩ (args := [_]) Tryd.func11 rfl Tryd.ntmps11 (by simp) ?_
  by_cases h4 : (4000 : Int) < (s.size : Int)
  · simp only [evO, ↓vmD, simprocAttr, forall_const, slIndexByte_p, indexByte_p, indexRune_p, containsRune_p, slHasPrefix_p, hasPrefix_p, classOf_p, isWordByte_p, wordAt_p, skip_p, number_p, literal_p, h4]
    have : 4000 < s.size := by omega
    refine ⟨.slice none 0 0, ?_, ?_, .refl _⟩
    · simp only [scanF, this, if_true]; rfl
    · simp only [scanF, this, if_true]; exact OwnH.nil ..
  have sk0 : ∀ h Q, CallsX Tryd.prog 24 #[.string s, .int .i64 0] h Q = Q (.returned (.int .i64 ((skN false s.toList : Nat) : Int))) h := fun h Q => by
    have e := skip_p s 0 (by omega) hs h Q
    simp only [List.drop_zero, Nat.zero_add] at e
    exact e
  simp only [evO, ↓vmD, simprocAttr, forall_const, slIndexByte_p, indexByte_p, indexRune_p, containsRune_p, slHasPrefix_p, hasPrefix_p, classOf_p, isWordByte_p, wordAt_p, skip_p, number_p, literal_p, h4, sc0, sk0]
  clear sk0
  have hM : More s (scanF s) [] (s.size + 1) (skN false s.toList) := by
    have : ¬ 4000 < s.size := by omega
    refine ⟨by omega, ?_⟩
    simp only [scanF, this, if_false, Nat.zero_add, List.drop_zero, List.nil_append]
    split
    · rfl
    · rename_i h5
      have hz : ∀ m i, (scanG s m i).1 ≠ 0 → (scanG s m i).2.2 = [] := by
        intro m
        induction m with
        | zero => intro i h; simp [scanG] at h
        | succ m ih =>
          intro i
          simp only [scanG]
          split
          · intro h; simp at h
          · split
            · intro _; rfl
            · intro h; simp only at h; simp only [h, if_false]
      rw [← hz _ _ h5]
  have hiz : skN false s.toList ≤ s.size := by have := skN_end s 0 (by omega); simpa using this
  have own : OwnH (h.push (.cells #[] 49)) h.size 49 4 (.slice (some ⟨h.size, 0, none⟩) 0 0) ([] : List LR).length (cellsL []) :=
    OwnH.of (Nat.le_refl _) (by simp; rfl) (by simp) (by simp [maxLen]) (by simp) (by simp [cellsL]) (by simp [cellsL])
  have g2 : Grew h (h.push (.cells #[] 49)) := .push _ _
  have hlen : ([] : List LR).length ≤ skN false s.toList := by simp
  generalize hm : s.size + 1 = m at hM
  clear hm
  generalize Value.slice (some ⟨h.size, 0, none⟩) 0 0 = v at own ⊢
  generalize skN false s.toList = i at *
  generalize hacc : ([] : List LR) = acc at own hM hlen
  clear hacc
  generalize h.push (.cells #[] 49) = h2 at *
  induction m generalizing v i acc h2 with
  | zero => have := hM.1; omega
  | succ m ih =>
    refine LoopAt.intro ?_
    by_cases hlt : (i : Int) < (s.size : Int)
    · simp only [evO, ↓vmD, simprocAttr, forall_const, slIndexByte_p, indexByte_p, indexRune_p, containsRune_p, slHasPrefix_p, hasPrefix_p, classOf_p, isWordByte_p, wordAt_p, skip_p, number_p, literal_p, hlt]
      refine (lexemeAt_h s i (by omega) hs h2).mono ?_
      rintro _ h3 ⟨rfl, g3⟩
      by_cases he : (lexR s i).e = 0
      · simp only [evO, ↓vmD, simprocAttr, forall_const, slIndexByte_p, indexByte_p, indexRune_p, containsRune_p, slHasPrefix_p, hasPrefix_p, classOf_p, isWordByte_p, wordAt_p, skip_p, number_p, literal_p, LR.val, he, sc1]
        obtain ⟨m', hm', hN⟩ := hM.next (by omega) he
        obtain rfl : m' = m := by omega
        have hnx := lexR_next s i (by omega) he
        have g5 := ((g2.trans g3).pushed (.cells (LR.cells (lexR s i)).toArray 49))
        have own3 := ((own.grew g3).grew (.push h3 (.cells (LR.cells (lexR s i)).toArray 49))).grew (.push _ (.cells (LR.cells (lexR s i)).toArray 49))
        refine rw_append (news := LR.cells (lexR s i)) (m := 1) slc42 zro49 rfl (by decide) own3 rfl (news_at _ _ (by simp) _ _ _) (by simp [LR.cells, Value.oneCell']) (by simp [maxLen]; omega) (by omega) (by have := g5.le; simp at this ⊢; omega) ?_
        intro v' h4' o' gB _
        have g4 : Grew h h4' := gB.grew (g5.pushed _) own3.row
        have hnx' := hnx.2
        simp only [evO, ↓vmD, simprocAttr, forall_const, slIndexByte_p, indexByte_p, indexRune_p, containsRune_p, slHasPrefix_p, hasPrefix_p, classOf_p, isWordByte_p, wordAt_p, skip_p, number_p, literal_p, hnx', hs]
        refine LoopAt.weak (ih v' _ (skN_end s _ hnx') (acc ++ [lexR s i]) hN ?_ h4' g4 ?_) (by simp only [subE, get_cons, Nat.reduceEqDiff, ↓reduceIte, reduceCtorEq, Nat.reduceAdd, and_self, and_true])
        · simp; omega
        · have e1 : (acc ++ [lexR s i]).length = acc.length + 1 := by simp
          have e2 : cellsL (acc ++ [lexR s i]) = cellsL acc ++ (lexR s i).cells := by simp [cellsL]
          rw [e1, e2]
          exact o'
      · simp only [evO, ↓vmD, simprocAttr, forall_const, slIndexByte_p, indexByte_p, indexRune_p, containsRune_p, slHasPrefix_p, hasPrefix_p, classOf_p, isWordByte_p, wordAt_p, skip_p, number_p, literal_p, LR.val, he]
        have hR := hM.err (by omega) he
        refine ⟨.slice none 0 0, ?_, ?_, ?_⟩
        · rw [hR]
        · rw [hR]; exact OwnH.nil ..
        · exact (g2.trans g3).pushed _
    · simp only [evO, ↓vmD, simprocAttr, forall_const, slIndexByte_p, indexByte_p, indexRune_p, containsRune_p, slHasPrefix_p, hasPrefix_p, classOf_p, isWordByte_p, wordAt_p, skip_p, number_p, literal_p, hlt, sc1]
      have hR := hM.last hiz (by omega)
      have own3 := own.grew (.push h2 (.cells (LR.cells (endR s)).toArray 49))
      refine rw_append (news := LR.cells (endR s)) (m := 1) slc42 zro49 rfl (by decide) own3 rfl (news_at _ _ (by simp) _ _ _) (by simp [LR.cells, Value.oneCell']) (by simp [maxLen]; omega) (by omega) (by have := g2.le; simp; omega) ?_
      intro v' h4' o' gB _
      have g4 : Grew h h4' := gB.grew (g2.pushed _) own3.row
      simp only [evO, ↓vmD, simprocAttr, forall_const, slIndexByte_p, indexByte_p, indexRune_p, containsRune_p, slHasPrefix_p, hasPrefix_p, classOf_p, isWordByte_p, wordAt_p, skip_p, number_p, literal_p]
      refine ⟨v', ?_, ?_, g4⟩
      · rw [hR]; rfl
      · have e1 : (acc ++ [endR s]).length = acc.length + 1 := by simp
        have e2 : cellsL (acc ++ [endR s]) = cellsL acc ++ (endR s).cells := by simp [cellsL]
        rw [hR, e1, e2]
        exact o'
end Go.Proofs.YtfphceknmgadgaaDoor
