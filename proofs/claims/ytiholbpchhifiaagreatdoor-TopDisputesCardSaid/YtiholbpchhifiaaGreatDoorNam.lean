/-
Names, and what the library finds in texts.
Conditions: none.
-/
import Derived.Test.YtiholbpchhifiaaGreatDoorVmAE
import Derived.Test.YtiholbpchhifiaaGreatDoorTy
import Derived.Test.YtiholbpchhifiaaGreatDoorVmAppend
import Derived.Lib.Bytealg
import Derived.Lib.IndexLaws
import Derived.Laws.RangeAny
namespace Go.Proofs.YtiholbpchhifiaaGreatDoor
open Go.Vm
set_option linter.unusedSimpArgs false
set_option linter.unusedVariables false
set_option maxHeartbeats 1000000
set_option maxRecDepth 20000

theorem indexByteString_h (s : ByteArray) (c : Int) (h : Heap) (Q : Ending → Heap → Prop) (hQ : Q (.returned (.int .i64 (Lib.indexByte s.data.toList c.toNat.toUInt8))) h) :
    ExtW Tryz.prog 102 #[.string s, .int .u8 c] h Q := by
  refine ext_of (e := Extern.BytealgIndexByte.indexByte) Tryz.func102 (by kernel_rfl) (by kernel_rfl) (by kernel_rfl) (by kernel_rfl) (fun w => Lib.run_indexByteString ..) hQ
theorem slIndexByte_h (s : ByteArray) (c : Int) (h : Heap) : CallsH Tryz.prog 97 #[.string s, .int .u8 c] h fun r h' => r = .returned (.int .i64 (Lib.indexByte s.data.toList c.toNat.toUInt8)) ∧ h' = h := by
  refine callsH_of_den ⟨Tryz.prog, 97, Tryz.f97, 8, [0, 1, 4], _⟩ (args := [_, _]) Tryz.func97 rfl Tryz.ntmps97 (by simp) ?_
  simp only [argE_nil, argE_cons, ↓vmD, vmV, vmStd, Nat.reduceMul, ↓reduceIte, Nat.reduceAdd, Nat.reduceSub, Nat.reduceEqDiff, Nat.reduceLT, Nat.reduceLeDiff, reduceCtorEq, Int.reduceToNat, Int.reduceLT, Int.reduceLE, Int.reduceEq, Int.reduceNeg, Int.reduceBEq, Int.reduceBNe, String.reduceEq, forall_const, tyS]
  refine indexByteString_h s c h _ ?_
  simp only [argE_nil, argE_cons, ↓vmD, vmV, vmStd, Nat.reduceMul, ↓reduceIte, Nat.reduceAdd, Nat.reduceSub, Nat.reduceEqDiff, Nat.reduceLT, Nat.reduceLeDiff, reduceCtorEq, Int.reduceToNat, Int.reduceLT, Int.reduceLE, Int.reduceEq, Int.reduceNeg, Int.reduceBEq, Int.reduceBNe, String.reduceEq, forall_const, tyS]
theorem slIndexByte_p (s : ByteArray) (c : Int) (h : Heap) (Q : Ending → Heap → Prop) : CallsX Tryz.prog 97 #[.string s, .int .u8 c] h Q = Q (.returned (.int .i64 (Lib.indexByte s.data.toList c.toNat.toUInt8))) (h) := CallsX.exact (by kernel_rfl) (slIndexByte_h s c h)
theorem slIndexByte_q (s : ByteArray) (c : Int) (h : Heap) (nt_ : Nat) (dst_ : Option Nat) (ρ_ : Env) (K_ : Env → Prop) : callQ Tryz.prog nt_ dst_ (.func (.func 97) #[] #[]) [.string s, .int .u8 c] ρ_ h K_ = putK nt_ dst_ (.int .i64 (Lib.indexByte s.data.toList c.toNat.toUInt8)) ρ_ K_ := callQ_exact (by kernel_rfl) (by kernel_rfl) (slIndexByte_h s c h)
theorem slIndexByte_v (s : ByteArray) (c : Int) (A_ : AH) : valA Tryz.prog 97 #[.string s, .int .u8 c] A_ = some (.int .i64 (Lib.indexByte s.data.toList c.toNat.toUInt8)) := pureA_e (by kernel_rfl) (by kernel_rfl) (fun h => slIndexByte_h s c h)
theorem indexByte_h (s : ByteArray) (c : Int) (h : Heap) : CallsH Tryz.prog 87 #[.string s, .int .u8 c] h fun r h' => r = .returned (.int .i64 (Lib.indexByte s.data.toList c.toNat.toUInt8)) ∧ h' = h := by
  refine callsH_of_den ⟨Tryz.prog, 87, Tryz.f87, 8, [0, 1, 4], _⟩ (args := [_, _]) Tryz.func87 rfl Tryz.ntmps87 (by simp) ?_
  simp only [argE_nil, argE_cons, ↓vmD, vmV, vmStd, Nat.reduceMul, ↓reduceIte, Nat.reduceAdd, Nat.reduceSub, Nat.reduceEqDiff, Nat.reduceLT, Nat.reduceLeDiff, reduceCtorEq, Int.reduceToNat, Int.reduceLT, Int.reduceLE, Int.reduceEq, Int.reduceNeg, Int.reduceBEq, Int.reduceBNe, String.reduceEq, forall_const, tyS, slIndexByte_p]
theorem indexByte_p (s : ByteArray) (c : Int) (h : Heap) (Q : Ending → Heap → Prop) : CallsX Tryz.prog 87 #[.string s, .int .u8 c] h Q = Q (.returned (.int .i64 (Lib.indexByte s.data.toList c.toNat.toUInt8))) (h) := CallsX.exact (by kernel_rfl) (indexByte_h s c h)
theorem indexByte_q (s : ByteArray) (c : Int) (h : Heap) (nt_ : Nat) (dst_ : Option Nat) (ρ_ : Env) (K_ : Env → Prop) : callQ Tryz.prog nt_ dst_ (.func (.func 87) #[] #[]) [.string s, .int .u8 c] ρ_ h K_ = putK nt_ dst_ (.int .i64 (Lib.indexByte s.data.toList c.toNat.toUInt8)) ρ_ K_ := callQ_exact (by kernel_rfl) (by kernel_rfl) (indexByte_h s c h)
theorem indexByte_v (s : ByteArray) (c : Int) (A_ : AH) : valA Tryz.prog 87 #[.string s, .int .u8 c] A_ = some (.int .i64 (Lib.indexByte s.data.toList c.toNat.toUInt8)) := pureA_e (by kernel_rfl) (by kernel_rfl) (fun h => indexByte_h s c h)
theorem indexRune_h (s : ByteArray) (c : Int) (h0 : 0 ≤ c) (h1 : c < 128) (h : Heap) : CallsH Tryz.prog 77 #[.string s, .int .i32 c] h fun r h' => r = .returned (.int .i64 (Lib.indexByte s.data.toList c.toNat.toUInt8)) ∧ h' = h := by
  refine callsH_of_den ⟨Tryz.prog, 77, Tryz.f77, 187, [0, 1, 4, 5, 6, 7, 8, 9, 10, 11, 12, 13, 14, 15, 16, 175, 176], _⟩ (args := [_, _]) Tryz.func77 rfl Tryz.ntmps77 (by simp) ?_
  have h3 : IntKind.u8.wrap c = c := w_u8 (by omega) (by omega)
  simp only [argE_nil, argE_cons, ↓vmD, vmV, vmStd, Nat.reduceMul, ↓reduceIte, Nat.reduceAdd, Nat.reduceSub, Nat.reduceEqDiff, Nat.reduceLT, Nat.reduceLeDiff, reduceCtorEq, Int.reduceToNat, Int.reduceLT, Int.reduceLE, Int.reduceEq, Int.reduceNeg, Int.reduceBEq, Int.reduceBNe, String.reduceEq, forall_const, tyS, slIndexByte_p, indexByte_p, h0, h1, h3]
theorem indexRune_p (s : ByteArray) (c : Int) (h0 : 0 ≤ c) (h1 : c < 128) (h : Heap) (Q : Ending → Heap → Prop) : CallsX Tryz.prog 77 #[.string s, .int .i32 c] h Q = Q (.returned (.int .i64 (Lib.indexByte s.data.toList c.toNat.toUInt8))) (h) := CallsX.exact (by kernel_rfl) (indexRune_h s c h0 h1 h)
theorem indexRune_q (s : ByteArray) (c : Int) (h0 : 0 ≤ c) (h1 : c < 128) (h : Heap) (nt_ : Nat) (dst_ : Option Nat) (ρ_ : Env) (K_ : Env → Prop) : callQ Tryz.prog nt_ dst_ (.func (.func 77) #[] #[]) [.string s, .int .i32 c] ρ_ h K_ = putK nt_ dst_ (.int .i64 (Lib.indexByte s.data.toList c.toNat.toUInt8)) ρ_ K_ := callQ_exact (by kernel_rfl) (by kernel_rfl) (indexRune_h s c h0 h1 h)
theorem indexRune_v (s : ByteArray) (c : Int) (h0 : 0 ≤ c) (h1 : c < 128) (A_ : AH) : valA Tryz.prog 77 #[.string s, .int .i32 c] A_ = some (.int .i64 (Lib.indexByte s.data.toList c.toNat.toUInt8)) := pureA_e (by kernel_rfl) (by kernel_rfl) (fun h => indexRune_h s c h0 h1 h)
theorem containsRune_h (s : ByteArray) (c : Int) (h0 : 0 ≤ c) (h1 : c < 128) (h : Heap) : CallsH Tryz.prog 59 #[.string s, .int .i32 c] h fun r h' => r = .returned (.bool (decide (0 ≤ Lib.indexByte s.data.toList c.toNat.toUInt8))) ∧ h' = h := by
  refine callsH_of_den ⟨Tryz.prog, 59, Tryz.f59, 9, [0, 1, 4], _⟩ (args := [_, _]) Tryz.func59 rfl Tryz.ntmps59 (by simp) ?_
  simp only [argE_nil, argE_cons, ↓vmD, vmV, vmStd, Nat.reduceMul, ↓reduceIte, Nat.reduceAdd, Nat.reduceSub, Nat.reduceEqDiff, Nat.reduceLT, Nat.reduceLeDiff, reduceCtorEq, Int.reduceToNat, Int.reduceLT, Int.reduceLE, Int.reduceEq, Int.reduceNeg, Int.reduceBEq, Int.reduceBNe, String.reduceEq, forall_const, tyS, slIndexByte_p, indexByte_p, indexRune_p, h0, h1]
theorem containsRune_p (s : ByteArray) (c : Int) (h0 : 0 ≤ c) (h1 : c < 128) (h : Heap) (Q : Ending → Heap → Prop) : CallsX Tryz.prog 59 #[.string s, .int .i32 c] h Q = Q (.returned (.bool (decide (0 ≤ Lib.indexByte s.data.toList c.toNat.toUInt8)))) (h) := CallsX.exact (by kernel_rfl) (containsRune_h s c h0 h1 h)
theorem containsRune_q (s : ByteArray) (c : Int) (h0 : 0 ≤ c) (h1 : c < 128) (h : Heap) (nt_ : Nat) (dst_ : Option Nat) (ρ_ : Env) (K_ : Env → Prop) : callQ Tryz.prog nt_ dst_ (.func (.func 59) #[] #[]) [.string s, .int .i32 c] ρ_ h K_ = putK nt_ dst_ (.bool (decide (0 ≤ Lib.indexByte s.data.toList c.toNat.toUInt8))) ρ_ K_ := callQ_exact (by kernel_rfl) (by kernel_rfl) (containsRune_h s c h0 h1 h)
theorem containsRune_v (s : ByteArray) (c : Int) (h0 : 0 ≤ c) (h1 : c < 128) (A_ : AH) : valA Tryz.prog 59 #[.string s, .int .i32 c] A_ = some (.bool (decide (0 ≤ Lib.indexByte s.data.toList c.toNat.toUInt8))) := pureA_e (by kernel_rfl) (by kernel_rfl) (fun h => containsRune_h s c h0 h1 h)
theorem isPrefixOf_take : ∀ (p l : List UInt8), p.isPrefixOf l = (l.take p.length == p)
  | [], l => by simp
  | a :: p, [] => by simp [List.isPrefixOf]
  | a :: p, b :: l => by
    simp only [List.isPrefixOf, List.length_cons, List.take_succ_cons, isPrefixOf_take p l]
    rw [Bool.eq_iff_iff]
    simp only [Bool.and_eq_true, beq_iff_eq, List.cons.injEq]
    exact ⟨fun ⟨x, y⟩ => ⟨x.symm, y⟩, fun ⟨x, y⟩ => ⟨x.symm, y⟩⟩
theorem prefix_extract {s p : ByteArray} (h : p.size ≤ s.size) : ((s.extract 0 p.size).toList == p.toList) = p.toList.isPrefixOf s.toList := by
  rw [isPrefixOf_take, ByteArray.toList_eq, ByteArray.toList_eq, ByteArray.toList_eq]
  have : (s.extract 0 p.size).data.toList = s.data.toList.take p.data.toList.length := by
    rw [ByteArray.data_extract]
    simp
  rw [this]
theorem prefix_long {s p : ByteArray} (h : s.size < p.size) : p.toList.isPrefixOf s.toList = false := by
  rw [isPrefixOf_take, ByteArray.toList_eq, ByteArray.toList_eq]
  rw [beq_eq_false_iff_ne]
  intro e
  have := congrArg List.length e
  simp at this
  omega
set_option linter.unusedSimpArgs false
set_option linter.unusedVariables false
set_option maxHeartbeats 1000000
set_option maxRecDepth 20000

def blankB (c : Nat) : Bool := decide (c = 32) || decide (c = 9) || decide (c = 10)
def letterB (c : Nat) : Bool := (decide (97 ≤ c) && decide (c ≤ 122)) || (decide (65 ≤ c) && decide (c ≤ 90))
def digitB (c : Nat) : Bool := decide (48 ≤ c) && decide (c ≤ 57)
def wordB (c : Nat) : Bool := letterB c || digitB c || decide (c = 95)
def marks : List UInt8 := [40, 41, 123, 125, 44, 59, 58, 61, 60, 62, 43, 45, 42, 37, 46]
def markB (c : Nat) : Bool := decide (c ≤ 126) && decide (0 ≤ Lib.indexByte marks c.toUInt8)
def clsF (c : Nat) : Int :=
  if blankB c = true then 1 else if letterB c = true then 2 else if digitB c = true then 3 else if c = 95 then 4 else if c = 34 then 5 else if c = 35 then 6 else if markB c = true then 7 else 0
theorem classOf_h (c : Nat) (hc : c < 256) (h : Heap) : CallsH Tryz.prog 42 #[.int .i32 (c : Int)] h fun r h' => r = .returned (.int .i64 (clsF c)) ∧ h' = h := by
  refine callsH_of_den ⟨Tryz.prog, 42, Tryz.f42, 52, [0, 2], _⟩ (args := [_]) Tryz.func42 rfl Tryz.ntmps42 (by simp) ?_
  have e1 : (ByteArray.mk #[40, 41, 123, 125, 44, 59, 58, 61, 60, 62, 43, 45, 42, 37, 46]).data.toList = marks := rfl
  have e2 : (0 ≤ (c : Int)) = True := by simp
  have e4 : c.toUInt8 = Nat.toUInt8 c := rfl
  by_cases hm : (c : Int) ≤ 126
  · have e3 : ((c : Int) < 128) = True := by simp; omega
    simp only [argE_nil, argE_cons, ↓vmD, vmV, vmStd, Nat.reduceMul, ↓reduceIte, Nat.reduceAdd, Nat.reduceSub, Nat.reduceEqDiff, Nat.reduceLT, Nat.reduceLeDiff, reduceCtorEq, Int.reduceToNat, Int.reduceLT, Int.reduceLE, Int.reduceEq, Int.reduceNeg, Int.reduceBEq, Int.reduceBNe, String.reduceEq, forall_const, tyS, slIndexByte_p, indexByte_p, indexRune_p, containsRune_p, e1, e2, e3, hm, Int.toNat_natCast]
    simp only [Ending.returned.injEq, Value.int.injEq, true_and]
    clear e1 e2 e3 e4 h
    revert c
    decide +kernel
  · simp only [argE_nil, argE_cons, ↓vmD, vmV, vmStd, Nat.reduceMul, ↓reduceIte, Nat.reduceAdd, Nat.reduceSub, Nat.reduceEqDiff, Nat.reduceLT, Nat.reduceLeDiff, reduceCtorEq, Int.reduceToNat, Int.reduceLT, Int.reduceLE, Int.reduceEq, Int.reduceNeg, Int.reduceBEq, Int.reduceBNe, String.reduceEq, forall_const, tyS, slIndexByte_p, indexByte_p, indexRune_p, containsRune_p, e1, e2, hm]
    simp only [Ending.returned.injEq, Value.int.injEq, true_and]
    clear e1 e2 e4 h
    revert c
    decide +kernel
theorem classOf_p (c : Nat) (hc : c < 256) (h : Heap) (Q : Ending → Heap → Prop) : CallsX Tryz.prog 42 #[.int .i32 (c : Int)] h Q = Q (.returned (.int .i64 (clsF c))) (h) := CallsX.exact (by kernel_rfl) (classOf_h c hc h)
theorem classOf_q (c : Nat) (hc : c < 256) (h : Heap) (nt_ : Nat) (dst_ : Option Nat) (ρ_ : Env) (K_ : Env → Prop) : callQ Tryz.prog nt_ dst_ (.func (.func 42) #[] #[]) [.int .i32 (c : Int)] ρ_ h K_ = putK nt_ dst_ (.int .i64 (clsF c)) ρ_ K_ := callQ_exact (by kernel_rfl) (by kernel_rfl) (classOf_h c hc h)
theorem classOf_v (c : Nat) (hc : c < 256) (A_ : AH) : valA Tryz.prog 42 #[.int .i32 (c : Int)] A_ = some (.int .i64 (clsF c)) := pureA_e (by kernel_rfl) (by kernel_rfl) (fun h => classOf_h c hc h)
set_option linter.unusedSimpArgs false
set_option linter.unusedVariables false
set_option maxHeartbeats 1000000
set_option maxRecDepth 20000

theorem byte_at {s : ByteArray} {pos : Nat} {c : UInt8} {l : List UInt8} (h : s.toList.drop pos = c :: l) : ∃ hp : pos < s.size, s[pos]'hp = c ∧ s.toList.drop (pos + 1) = l ∧ s.size = pos + 1 + l.length ∧ s.data[pos]? = some c := by
  have hn : s.size = s.data.toList.length := rfl
  rw [ByteArray.toList_eq] at h ⊢
  have hlen : (s.data.toList.drop pos).length = l.length + 1 := by rw [h]; rfl
  have hl2 := hlen
  rw [List.length_drop, ← hn] at hl2
  have hp : pos < s.size := by omega
  have h1 := List.drop_eq_getElem_cons (l := s.data.toList) (i := pos) (by omega)
  rw [h] at h1
  simp only [List.cons.injEq] at h1
  refine ⟨hp, ?_, h1.2.symm, by omega, ?_⟩
  · rw [h1.1]; rfl
  · rw [h1.1]; simp
theorem byte_end {s : ByteArray} {pos : Nat} (h : s.toList.drop pos = []) : ¬ pos < s.size := by
  have hn : s.size = s.data.toList.length := rfl
  rw [ByteArray.toList_eq] at h
  have := congrArg List.length h
  rw [List.length_drop, ← hn] at this
  simp only [List.length_nil] at this
  omega
theorem size_list (s : ByteArray) : s.toList.length = s.size := by rw [ByteArray.toList_eq]; rfl
def wlen : List UInt8 → Nat
  | [] => 0
  | c :: l => if wordB c.toNat = true then wlen l + 1 else 0
def skN : Bool → List UInt8 → Nat
  | _, [] => 0
  | r, c :: l => if (r || (blankB c.toNat || decide (c.toNat = 35))) = true then skN ((r || decide (c.toNat = 35)) && !decide (c.toNat = 10)) l + 1 else 0
theorem wlen_le : ∀ l : List UInt8, wlen l ≤ l.length
  | [] => Nat.le_refl _
  | c :: l => by
    have := wlen_le l
    simp only [wlen, List.length_cons]
    split <;> omega
theorem skN_le : ∀ (r : Bool) (l : List UInt8), skN r l ≤ l.length
  | _, [] => Nat.le_refl _
  | r, c :: l => by
    have := skN_le ((r || decide (c.toNat = 35)) && !decide (c.toNat = 10)) l
    simp only [skN, List.length_cons]
    split <;> omega
theorem u8_lt (c : UInt8) : c.toNat < 256 := c.toNat_lt
theorem cls_word : ∀ c, c < 256 → (clsF c == 2 || clsF c == 3 || clsF c == 4) = wordB c := by decide +kernel
theorem letter_int (c : Nat) : (decide ((97 : Int) ≤ (c : Int)) && decide ((c : Int) ≤ 122) || decide ((65 : Int) ≤ (c : Int)) && decide ((c : Int) ≤ 90)) = letterB c := by
  rw [Bool.eq_iff_iff]; simp [letterB]; omega
theorem digit_int (c : Nat) : (decide ((48 : Int) ≤ (c : Int)) && decide ((c : Int) ≤ 57)) = digitB c := by
  rw [Bool.eq_iff_iff]; simp [digitB]; omega
theorem isWordByte_h (c : UInt8) (h : Heap) : CallsH Tryz.prog 60 #[.int .u8 (c.toNat : Int)] h fun r h' => r = .returned (.bool (wordB c.toNat)) ∧ h' = h := by
  refine callsH_of_den ⟨Tryz.prog, 60, Tryz.f60, 17, [0, 2, 3], _⟩ (args := [_]) Tryz.func60 rfl Tryz.ntmps60 (by simp) ?_
  have hc := u8_lt c
  have hw : IntKind.i32.wrap (c.toNat : Int) = c.toNat := w_i32 (by omega) (by omega)
  simp only [argE_nil, argE_cons, ↓vmD, vmV, vmStd, Nat.reduceMul, ↓reduceIte, Nat.reduceAdd, Nat.reduceSub, Nat.reduceEqDiff, Nat.reduceLT, Nat.reduceLeDiff, reduceCtorEq, Int.reduceToNat, Int.reduceLT, Int.reduceLE, Int.reduceEq, Int.reduceNeg, Int.reduceBEq, Int.reduceBNe, String.reduceEq, forall_const, tyS, slIndexByte_p, indexByte_p, indexRune_p, containsRune_p, classOf_p, hw, hc]
  rw [cls_word c.toNat hc]
theorem isWordByte_p (c : UInt8) (h : Heap) (Q : Ending → Heap → Prop) : CallsX Tryz.prog 60 #[.int .u8 (c.toNat : Int)] h Q = Q (.returned (.bool (wordB c.toNat))) (h) := CallsX.exact (by kernel_rfl) (isWordByte_h c h)
theorem isWordByte_q (c : UInt8) (h : Heap) (nt_ : Nat) (dst_ : Option Nat) (ρ_ : Env) (K_ : Env → Prop) : callQ Tryz.prog nt_ dst_ (.func (.func 60) #[] #[]) [.int .u8 (c.toNat : Int)] ρ_ h K_ = putK nt_ dst_ (.bool (wordB c.toNat)) ρ_ K_ := callQ_exact (by kernel_rfl) (by kernel_rfl) (isWordByte_h c h)
theorem isWordByte_v (c : UInt8) (A_ : AH) : valA Tryz.prog 60 #[.int .u8 (c.toNat : Int)] A_ = some (.bool (wordB c.toNat)) := pureA_e (by kernel_rfl) (by kernel_rfl) (fun h => isWordByte_h c h)
theorem drop_byte {s : ByteArray} {i : Nat} (h : i < s.size) : ∃ c l, s.toList.drop i = c :: l := by
  cases hl : s.toList.drop i with
  | nil => exact absurd h (byte_end hl)
  | cons c l => exact ⟨c, l, rfl⟩
theorem wordAt_h (s : ByteArray) (i : Nat) (hi : i ≤ s.size) (hs : s.size ≤ 200000000000000) (h : Heap) : CallsH Tryz.prog 43 #[.string s, .int .i64 (i : Int)] h fun r h' => r = .returned (.string (s.extract i (i + wlen (s.toList.drop i)))) ∧ h' = h := by
  refine callsH_of_den ⟨Tryz.prog, 43, Tryz.f43, 23, [0, 1, 4, 5], _⟩ (args := [_, _]) Tryz.func43 rfl Tryz.ntmps43 (by simp) ?_
  simp only [argE_nil, argE_cons, ↓vmD, vmV, vmStd, Nat.reduceMul, ↓reduceIte, Nat.reduceAdd, Nat.reduceSub, Nat.reduceEqDiff, Nat.reduceLT, Nat.reduceLeDiff, reduceCtorEq, Int.reduceToNat, Int.reduceLT, Int.reduceLE, Int.reduceEq, Int.reduceNeg, Int.reduceBEq, Int.reduceBNe, String.reduceEq, forall_const, tyS, slIndexByte_p, indexByte_p, indexRune_p, containsRune_p, classOf_p, isWordByte_p]
  obtain ⟨e, he, h1, h2, h3⟩ : ∃ e : Nat, e = i ∧ i ≤ e ∧ e ≤ s.size ∧ i + wlen (s.toList.drop i) = e + wlen (s.toList.drop e) := ⟨i, rfl, by omega, hi, rfl⟩
  rw [show (5, some (Value.int .i64 (i : Int))) = (5, some (Value.int .i64 (e : Int))) by rw [he]]
  clear he
  generalize hl : s.toList.drop e = l at h3
  induction l generalizing e with
  | nil =>
    have hlt : ((e : Int) < (s.size : Int)) = False := by have := byte_end hl; simp; omega
    have hle : ((i : Int) ≤ (e : Int)) = True := by simp; omega
    have hle2 : ((e : Int) ≤ (s.size : Int)) = True := by simp; omega
    refine LoopAt.intro ?_
    simp only [argE_nil, argE_cons, ↓vmD, vmV, vmStd, Nat.reduceMul, ↓reduceIte, Nat.reduceAdd, Nat.reduceSub, Nat.reduceEqDiff, Nat.reduceLT, Nat.reduceLeDiff, reduceCtorEq, Int.reduceToNat, Int.reduceLT, Int.reduceLE, Int.reduceEq, Int.reduceNeg, Int.reduceBEq, Int.reduceBNe, String.reduceEq, forall_const, tyS, slIndexByte_p, indexByte_p, indexRune_p, containsRune_p, classOf_p, isWordByte_p, hlt, hle, hle2]
    rw [h3]
    rfl
  | cons c l ih =>
    obtain ⟨hp, hc, hl', hsl, hb⟩ := byte_at hl
    have hlt : ((e : Int) < (s.size : Int)) = True := by simp; omega
    have hle : ((i : Int) ≤ (e : Int)) = True := by simp; omega
    have hle2 : ((e : Int) ≤ (s.size : Int)) = True := by simp; omega
    have we : IntKind.i64.wrap ((e : Int) + 1) = ((e + 1 : Nat) : Int) := by rw [w_i64 (by omega) (by omega)]; omega
    refine LoopAt.intro ?_
    simp only [wlen] at h3
    cases hw : wordB c.toNat with
    | true =>
      rw [if_pos hw] at h3
      simp only [argE_nil, argE_cons, ↓vmD, vmV, vmStd, Nat.reduceMul, ↓reduceIte, Nat.reduceAdd, Nat.reduceSub, Nat.reduceEqDiff, Nat.reduceLT, Nat.reduceLeDiff, reduceCtorEq, Int.reduceToNat, Int.reduceLT, Int.reduceLE, Int.reduceEq, Int.reduceNeg, Int.reduceBEq, Int.reduceBNe, String.reduceEq, forall_const, tyS, slIndexByte_p, indexByte_p, indexRune_p, containsRune_p, classOf_p, isWordByte_p, hlt, hb, we, hw]
      exact LoopAt.weak (ih (e + 1) (by omega) (by omega) hl' (by omega)) (by simp only [subE, get_cons, Nat.reduceEqDiff, ↓reduceIte, reduceCtorEq, Nat.reduceAdd, and_self, and_true])
    | false =>
      rw [if_neg (by simp [hw])] at h3
      simp only [argE_nil, argE_cons, ↓vmD, vmV, vmStd, Nat.reduceMul, ↓reduceIte, Nat.reduceAdd, Nat.reduceSub, Nat.reduceEqDiff, Nat.reduceLT, Nat.reduceLeDiff, reduceCtorEq, Int.reduceToNat, Int.reduceLT, Int.reduceLE, Int.reduceEq, Int.reduceNeg, Int.reduceBEq, Int.reduceBNe, String.reduceEq, forall_const, tyS, slIndexByte_p, indexByte_p, indexRune_p, containsRune_p, classOf_p, isWordByte_p, hlt, hb, we, hw, hle, hle2]
      rw [h3]
      rfl
theorem wordAt_p (s : ByteArray) (i : Nat) (hi : i ≤ s.size) (hs : s.size ≤ 200000000000000) (h : Heap) (Q : Ending → Heap → Prop) : CallsX Tryz.prog 43 #[.string s, .int .i64 (i : Int)] h Q = Q (.returned (.string (s.extract i (i + wlen (s.toList.drop i))))) (h) := CallsX.exact (by kernel_rfl) (wordAt_h s i hi hs h)
theorem wordAt_q (s : ByteArray) (i : Nat) (hi : i ≤ s.size) (hs : s.size ≤ 200000000000000) (h : Heap) (nt_ : Nat) (dst_ : Option Nat) (ρ_ : Env) (K_ : Env → Prop) : callQ Tryz.prog nt_ dst_ (.func (.func 43) #[] #[]) [.string s, .int .i64 (i : Int)] ρ_ h K_ = putK nt_ dst_ (.string (s.extract i (i + wlen (s.toList.drop i)))) ρ_ K_ := callQ_exact (by kernel_rfl) (by kernel_rfl) (wordAt_h s i hi hs h)
theorem wordAt_v (s : ByteArray) (i : Nat) (hi : i ≤ s.size) (hs : s.size ≤ 200000000000000) (A_ : AH) : valA Tryz.prog 43 #[.string s, .int .i64 (i : Int)] A_ = some (.string (s.extract i (i + wlen (s.toList.drop i)))) := pureA_e (by kernel_rfl) (by kernel_rfl) (fun h => wordAt_h s i hi hs h)
theorem i95 (c : Nat) : ((c : Int) == 95) = decide (c = 95) := by rw [Bool.eq_iff_iff]; simp; omega
theorem i_eq (c k : Nat) : ((c : Int) == (k : Int)) = decide (c = k) := by rw [Bool.eq_iff_iff]; simp only [beq_iff_eq, decide_eq_true_eq]; omega
theorem ext_size (s : ByteArray) (i k : Nat) (h : i + k ≤ s.size) : (s.extract i (i + k)).size = k := by simp; omega
def nameF (s : ByteArray) : Bool := decide (0 < s.size) && (decide (s.size ≤ 16) && ((match s.toList with | c :: _ => letterB c.toNat | [] => false) && decide (wlen s.toList = s.size)))
theorem toList_nil {s : ByteArray} (h : s.size = 0) : s.toList = [] := by
  have := size_list s
  rw [h] at this
  exact List.eq_nil_of_length_eq_zero this
theorem cls_letter : ∀ c, c < 256 → (clsF c = 2 ∧ letterB c = true) ∨ (clsF c ≠ 2 ∧ letterB c = false) := by decide +kernel
theorem str_nil (s : ByteArray) : (s.toList == []) = decide (s.size = 0) := by
  rw [Bool.eq_iff_iff]
  simp only [beq_iff_eq, decide_eq_true_eq]
  constructor
  · intro h; rw [← size_list, h]; rfl
  · exact toList_nil
theorem isName_h (s : ByteArray) (h : Heap) : CallsH Tryz.prog 23 #[.string s] h fun r h' => r = .returned (.bool (nameF s)) ∧ h' = h := by
  refine callsH_of_den ⟨Tryz.prog, 23, Tryz.f23, 23, [0, 2], _⟩ (args := [_]) Tryz.func23 rfl Tryz.ntmps23 (by simp) ?_
  by_cases h0 : s.size = 0
  · have e0 : (s.toList = []) = True := by simp [toList_nil h0]
    simp only [argE_nil, argE_cons, ↓vmD, vmV, vmStd, Nat.reduceMul, ↓reduceIte, Nat.reduceAdd, Nat.reduceSub, Nat.reduceEqDiff, Nat.reduceLT, Nat.reduceLeDiff, reduceCtorEq, Int.reduceToNat, Int.reduceLT, Int.reduceLE, Int.reduceEq, Int.reduceNeg, Int.reduceBEq, Int.reduceBNe, String.reduceEq, forall_const, tyS, slIndexByte_p, indexByte_p, indexRune_p, containsRune_p, classOf_p, isWordByte_p, wordAt_p, e0, toList_nil h0]
    simp [nameF, h0]
  have e0 : (s.toList = []) = False := by simp; intro h; have := size_list s; rw [h] at this; simp at this; omega
  obtain ⟨c, l, hl⟩ := drop_byte (s := s) (i := 0) (by omega)
  obtain ⟨hp, hc, hl', hsl, hb⟩ := byte_at hl
  have hcl := u8_lt c
  have w32 : IntKind.i32.wrap (c.toNat : Int) = c.toNat := w_i32 (by omega) (by omega)
  rw [List.drop_zero] at hl
  have hw := wlen_le s.toList
  rw [size_list] at hw
  have hx := ext_size s 0 (wlen s.toList) (by omega)
  rw [Nat.zero_add] at hx
  by_cases h16 : (16 : Int) < (s.size : Int)
  · simp only [argE_nil, argE_cons, ↓vmD, vmV, vmStd, Nat.reduceMul, ↓reduceIte, Nat.reduceAdd, Nat.reduceSub, Nat.reduceEqDiff, Nat.reduceLT, Nat.reduceLeDiff, reduceCtorEq, Int.reduceToNat, Int.reduceLT, Int.reduceLE, Int.reduceEq, Int.reduceNeg, Int.reduceBEq, Int.reduceBNe, String.reduceEq, forall_const, tyS, slIndexByte_p, indexByte_p, indexRune_p, containsRune_p, classOf_p, isWordByte_p, wordAt_p, e0, h16]
    have : ¬ s.size ≤ 16 := by omega
    simp [nameF, this]
  have wa : ∀ h Q, CallsX Tryz.prog 43 #[.string s, .int .i64 0] h Q = Q (.returned (.string (s.extract 0 (wlen s.toList)))) h := fun h Q => by
    have e := wordAt_p s 0 (by omega) (by omega) h Q
    simp only [List.drop_zero, Nat.zero_add] at e
    exact e
  rcases cls_letter c.toNat hcl with ⟨k1, k2⟩ | ⟨k1, k2⟩
  · simp only [argE_nil, argE_cons, ↓vmD, vmV, vmStd, Nat.reduceMul, ↓reduceIte, Nat.reduceAdd, Nat.reduceSub, Nat.reduceEqDiff, Nat.reduceLT, Nat.reduceLeDiff, reduceCtorEq, Int.reduceToNat, Int.reduceLT, Int.reduceLE, Int.reduceEq, Int.reduceNeg, Int.reduceBEq, Int.reduceBNe, String.reduceEq, forall_const, tyS, slIndexByte_p, indexByte_p, indexRune_p, containsRune_p, classOf_p, isWordByte_p, wordAt_p, e0, h16, hb, w32, hcl, k1, wa, hx]
    have h1 : s.size ≤ 16 := by omega
    have h2 : 0 < s.size := by omega
    rw [i_eq]
    simp only [nameF, h1, h2, decide_true, Bool.true_and]
    rw [hl]
    simp only [k2, Bool.true_and]
  · simp only [argE_nil, argE_cons, ↓vmD, vmV, vmStd, Nat.reduceMul, ↓reduceIte, Nat.reduceAdd, Nat.reduceSub, Nat.reduceEqDiff, Nat.reduceLT, Nat.reduceLeDiff, reduceCtorEq, Int.reduceToNat, Int.reduceLT, Int.reduceLE, Int.reduceEq, Int.reduceNeg, Int.reduceBEq, Int.reduceBNe, String.reduceEq, forall_const, tyS, slIndexByte_p, indexByte_p, indexRune_p, containsRune_p, classOf_p, isWordByte_p, wordAt_p, e0, h16, hb, w32, hcl, k1]
    simp only [nameF]
    rw [hl]
    simp [k2]
theorem isName_p (s : ByteArray) (h : Heap) (Q : Ending → Heap → Prop) : CallsX Tryz.prog 23 #[.string s] h Q = Q (.returned (.bool (nameF s))) (h) := CallsX.exact (by kernel_rfl) (isName_h s h)
theorem isName_q (s : ByteArray) (h : Heap) (nt_ : Nat) (dst_ : Option Nat) (ρ_ : Env) (K_ : Env → Prop) : callQ Tryz.prog nt_ dst_ (.func (.func 23) #[] #[]) [.string s] ρ_ h K_ = putK nt_ dst_ (.bool (nameF s)) ρ_ K_ := callQ_exact (by kernel_rfl) (by kernel_rfl) (isName_h s h)
theorem isName_v (s : ByteArray) (A_ : AH) : valA Tryz.prog 23 #[.string s] A_ = some (.bool (nameF s)) := pureA_e (by kernel_rfl) (by kernel_rfl) (fun h => isName_h s h)
end Go.Proofs.YtiholbpchhifiaaGreatDoor
