/-
Digits, fractions, percentages of the program.
Conditions: none.
-/
import Derived.Test.YtfphceknmgadgaaDoorQh
import Derived.Test.YtfphceknmgadgaaDoorVmBy
import Derived.Test.YtfphceknmgadgaaDoorQa
import Derived.Test.YtfphceknmgadgaaDoorQb
import Derived.Test.YtfphceknmgadgaaDoorTy
import Derived.Test.YtfphceknmgadgaaDoorVmAM
import Derived.Test.YtfphceknmgadgaaDoorShelf
set_option linter.unusedSimpArgs false
set_option linter.unusedVariables false
namespace Go.Proofs.YtfphceknmgadgaaDoor
open Go.Vm
set_option maxHeartbeats 2000000
set_option maxRecDepth 20000
theorem vbQi : type_of% (An @slIndexByte_v (An @indexByte_v (An @indexRune_v (An @containsRune_v (An @slHasPrefix_v (An @hasPrefix_v (An @classOf_v (An @isWordByte_v (An @wordAt_v (An @skip_v (An @number_v (An @literal_v (An @lexemeAt_v (An @isName_v @resV_v)))))))))))))) := ⟨@slIndexByte_v, @indexByte_v, @indexRune_v, @containsRune_v, @slHasPrefix_v, @hasPrefix_v, @classOf_v, @isWordByte_v, @wordAt_v, @skip_v, @number_v, @literal_v, @lexemeAt_v, @isName_v, @resV_v⟩
theorem utl_idx (c : UInt8) : ∀ l : List UInt8, utl c l = if Lib.indexByte l c = -1 then l.length else (Lib.indexByte l c).toNat + 1
  | [] => by simp [utl, Lib.indexByte]
  | x :: l => by
    have ih := utl_idx c l
    have hge := Lib.indexByte_ge l c
    by_cases hc : x = c
    · subst hc; simp [utl, Lib.indexByte]
    · simp only [utl, if_neg hc, Lib.indexByte, beq_iff_eq, ih, List.length_cons]
      by_cases h2 : Lib.indexByte l c = -1
      · simp [h2]
      · have h3 : Lib.indexByte l c + 1 ≠ -1 := by omega
        have h4 : (Lib.indexByte l c + 1).toNat = (Lib.indexByte l c).toNat + 1 := by omega
        simp only [h2, if_false, h3, h4]
theorem fDigit_h (c : UInt8) : CallA Tryd.prog 21 #[.int .u8 (c.toNat : Int)] [] (fun u_ _ => u_ = .bool (digitB c.toNat)) := by
  refine callA_of_denA ⟨Tryd.prog, 21, Tryd.f21, 9, [0, 2], ⟨[], none⟩, [], _⟩ rfl (args := [_]) Tryd.func21 rfl (by kernel_rfl) Tryd.ntmps21 (by simp) (by kernel_rfl) ?_
  intro ν fr; have nuE := fr.nu
  simp (maxDischargeDepth := 16) only [evN, ↓evP, simprocAttr, forall_const, nuE, fr.2, vbQi]
  rw [digit_int]
theorem fDigit_v (c : UInt8) (A_ : AH) : valA Tryd.prog 21 #[.int .u8 (c.toNat : Int)] A_ = some (.bool (digitB c.toNat)) := valA_eq (pureA_of (by kernel_rfl) (fDigit_h c))
theorem fInWord_h (c : UInt8) : CallA Tryd.prog 22 #[.int .u8 (c.toNat : Int)] [] (fun u_ _ => u_ = .bool (wordB c.toNat)) := by
  refine callA_of_denA ⟨Tryd.prog, 22, Tryd.f22, 25, [0, 2], ⟨[], none⟩, [], _⟩ rfl (args := [_]) Tryd.func22 rfl (by kernel_rfl) Tryd.ntmps22 (by simp) (by kernel_rfl) ?_
  intro ν fr; have nuE := fr.nu
  have e95 := i95 c.toNat
  have hl := letter_int c.toNat
  cases hd : digitB c.toNat with
  | true =>
    simp (maxDischargeDepth := 16) only [evN, ↓evP, simprocAttr, forall_const, nuE, fr.2, vbQi, fDigit_v, hd]
    simp [wordB, hd]
  | false =>
    simp (maxDischargeDepth := 16) only [evN, ↓evP, simprocAttr, forall_const, nuE, fr.2, vbQi, fDigit_v, hd, e95]
    simp [wordB, hd, ← hl]
theorem fInWord_v (c : UInt8) (A_ : AH) : valA Tryd.prog 22 #[.int .u8 (c.toNat : Int)] A_ = some (.bool (wordB c.toNat)) := valA_eq (pureA_of (by kernel_rfl) (fInWord_h c))
theorem aDig_h (s : ByteArray) (i : Nat) (hi : i ≤ s.size) (hs : s.size ≤ 100000) : CallA Tryd.prog 38 #[.string s, .int .i64 (i : Int)] [] (fun u_ _ => u_ = .int .i64 ((i + dlen (s.toList.drop i) : Nat) : Int)) := by
  refine callA_of_denA ⟨Tryd.prog, 38, Tryd.f38, 18, [0, 1, 4], ⟨[], none⟩, [], _⟩ rfl (args := [_, _]) Tryd.func38 rfl (by kernel_rfl) Tryd.ntmps38 (by simp) (by kernel_rfl) ?_
  intro ν fr; have nuE := fr.nu
  simp (maxDischargeDepth := 16) only [evN, ↓evP, simprocAttr, forall_const, nuE, fr.2, vbQi, fDigit_v, fInWord_v]
  obtain ⟨e, he, h1, h2, h3⟩ : ∃ e : Nat, e = i ∧ i ≤ e ∧ e ≤ s.size ∧ i + dlen (s.toList.drop i) = e + dlen (s.toList.drop e) := ⟨i, rfl, by omega, hi, rfl⟩
  rw [show (1, some (Value.int .i64 (i : Int))) = (1, some (Value.int .i64 (e : Int))) by rw [he]]
  clear he nuE fr
  generalize hl : s.toList.drop e = l at h3
  induction l generalizing e with
  | nil =>
    have hlt : ((e : Int) < (s.size : Int)) = False := by have := byte_end hl; simp; omega
    refine LoopA.intro (by kernel_rfl) ?_
    intro ν fr; have nuE := fr.nu
    simp (maxDischargeDepth := 16) only [evN, ↓evP, simprocAttr, forall_const, nuE, fr.2, vbQi, fDigit_v, fInWord_v, hlt]
    rw [h3]
    rfl
  | cons c l ih =>
    obtain ⟨hp, hc, hl', hsl, hb⟩ := byte_at hl
    have hlt : ((e : Int) < (s.size : Int)) = True := by simp; omega
    have we : IntKind.i64.wrap ((e : Int) + 1) = ((e + 1 : Nat) : Int) := by rw [w_i64 (by omega) (by omega)]; omega
    refine LoopA.intro (by kernel_rfl) ?_
    intro ν fr; have nuE := fr.nu
    simp only [dlen] at h3
    cases hw : digitB c.toNat with
    | true =>
      rw [if_pos hw] at h3
      simp (maxDischargeDepth := 16) only [evN, ↓evP, simprocAttr, forall_const, nuE, fr.2, vbQi, fDigit_v, fInWord_v, hlt, hb, we, hw]
      exact LoopA.weak (ih (e + 1) (by omega) (by omega) hl' (by omega)) (by simp only [subE, get_cons, Nat.reduceEqDiff, ↓reduceIte, reduceCtorEq, Nat.reduceAdd, and_self, and_true]) (SubA.refl _)
    | false =>
      rw [if_neg (by simp [hw])] at h3
      simp (maxDischargeDepth := 16) only [evN, ↓evP, simprocAttr, forall_const, nuE, fr.2, vbQi, fDigit_v, fInWord_v, hlt, hb, we, hw]
      rw [h3]
      rfl
theorem aDig_v (s : ByteArray) (i : Nat) (hi : i ≤ s.size) (hs : s.size ≤ 100000) (A_ : AH) : valA Tryd.prog 38 #[.string s, .int .i64 (i : Int)] A_ = some (.int .i64 ((i + dlen (s.toList.drop i) : Nat) : Int)) := valA_eq (pureA_of (by kernel_rfl) (aDig_h s i hi hs))
theorem aftV_h (s : ByteArray) (i : Nat) (c : UInt8) (hi : i ≤ s.size) (hs : s.size ≤ 100000) : CallA Tryd.prog 20 #[.string s, .int .i64 (i : Int), .int .u8 (c.toNat : Int)] [] (fun u_ _ => u_ = .int .i64 ((i + utl c (s.toList.drop i) : Nat) : Int)) := by
  refine callA_of_denA ⟨Tryd.prog, 20, Tryd.f20, 21, [0, 1, 2, 6, 7], ⟨[], none⟩, [], _⟩ rfl (args := [_, _, _]) Tryd.func20 rfl (by kernel_rfl) Tryd.ntmps20 (by simp) (by kernel_rfl) ?_
  intro ν fr; have nuE := fr.nu
  have hle2 : ((i : Int) ≤ (s.size : Int)) = True := by simp; omega
  have he0 : (0 ≤ (i : Int)) = True := by simp
  have hu := utl_idx c (s.toList.drop i)
  have hx := Lib.indexByte_ge (s.toList.drop i) c
  have hw : Nat.toUInt8 c.toNat = c := by simp
  rcases index_lt (s.toList.drop i) c with hy | hy
  rotate_left
  · have hm : Lib.indexByte (s.toList.drop i) c < 0 := by rw [hy]; simp [Lib.indexByte]
    simp (maxDischargeDepth := 16) only [evN, ↓evP, simprocAttr, forall_const, nuE, fr.2, vbQi, fDigit_v, fInWord_v, aDig_v, hle2, he0, ext_drop', hw, eq_true hm]
    rw [hu, if_pos (by omega), List.length_drop, size_list]
    have : i + (s.size - i) = s.size := by omega
    rw [this]
  rw [List.length_drop, size_list] at hy
  by_cases hm : Lib.indexByte (s.toList.drop i) c < 0
  · simp (maxDischargeDepth := 16) only [evN, ↓evP, simprocAttr, forall_const, nuE, fr.2, vbQi, fDigit_v, fInWord_v, aDig_v, hle2, he0, ext_drop', hw, eq_true hm]
    rw [hu, if_pos (by omega), List.length_drop, size_list]
    have : i + (s.size - i) = s.size := by omega
    rw [this]
  · obtain ⟨q, hq⟩ := Int.eq_ofNat_of_zero_le (Int.not_lt.1 hm)
    have w1 : IntKind.i64.wrap ((i : Int) + Lib.indexByte (s.toList.drop i) c) = ((i + q : Nat) : Int) := by rw [hq, w_i64 (by omega) (by omega)]; omega
    have w2 : IntKind.i64.wrap (((i + q : Nat) : Int) + 1) = ((i + q + 1 : Nat) : Int) := by rw [w_i64 (by omega) (by omega)]; omega
    simp (maxDischargeDepth := 16) only [evN, ↓evP, simprocAttr, forall_const, nuE, fr.2, vbQi, fDigit_v, fInWord_v, aDig_v, hle2, he0, ext_drop', hw, eq_false hm, w1, w2]
    rw [hu, if_neg (by omega), hq, Int.toNat_natCast]
    congr 1
theorem aftV_v (s : ByteArray) (i : Nat) (c : UInt8) (hi : i ≤ s.size) (hs : s.size ≤ 100000) (A_ : AH) : valA Tryd.prog 20 #[.string s, .int .i64 (i : Int), .int .u8 (c.toNat : Int)] A_ = some (.int .i64 ((i + utl c (s.toList.drop i) : Nat) : Int)) := valA_eq (pureA_of (by kernel_rfl) (aftV_h s i c hi hs))
def frV (s : ByteArray) (i : Nat) : Nat × Nat := match frL (s.toList.drop i) with | some (d, k) => (i + d, i + d + k) | none => (0, 0)
theorem fracV_h (s : ByteArray) (i : Nat) (hi : i ≤ s.size) (hs : s.size ≤ 100000) : CallA Tryd.prog 23 #[.string s, .int .i64 (i : Int)] [] (fun u_ _ => u_ = .tuple #[.int .i64 ((frV s i).1 : Int), .int .i64 ((frV s i).2 : Int)]) := by
  refine callA_of_denA ⟨Tryd.prog, 23, Tryd.f23, 41, [0, 1, 4, 5], ⟨[], none⟩, [], _⟩ rfl (args := [_, _]) Tryd.func23 rfl (by kernel_rfl) Tryd.ntmps23 (by simp) (by kernel_rfl) ?_
  intro ν fr; have nuE := fr.nu
  have hd := dlen_le (s.toList.drop i)
  rw [List.length_drop, size_list] at hd
  have ad := aDig_v s i hi hs
  have e46' : ∀ c : UInt8, ((c.toNat : Int) = 46) = (c = 46) := fun c => propext ⟨fun h => by rw [← UInt8.toNat_inj]; have : (46 : UInt8).toNat = 46 := rfl; omega, fun h => by rw [h]; rfl⟩
  have e46 : ∀ c : UInt8, ((c.toNat : Int) != 46) = !decide (c = 46) := fun c => by
    by_cases h : c = 46
    · subst h; rfl
    · have h2 : ¬ (c.toNat : Int) = 46 := by rw [e46']; exact h
      simp [h, h2]
  have e37' : ∀ c : UInt8, ((c.toNat : Int) = 37) = (c = 37) := fun c => propext ⟨fun h => by rw [← UInt8.toNat_inj]; have : (37 : UInt8).toNat = 37 := rfl; omega, fun h => by rw [h]; rfl⟩
  have e37 : ∀ c : UInt8, ((c.toNat : Int) != 37) = !decide (c = 37) := fun c => by
    by_cases h : c = 37
    · subst h; rfl
    · have h2 : ¬ (c.toNat : Int) = 37 := by rw [e37']; exact h
      simp [h, h2]
  have hdd : s.toList.drop (i + dlen (s.toList.drop i)) = (s.toList.drop i).drop (dlen (s.toList.drop i)) := by rw [List.drop_drop]
  cases hl : (s.toList.drop i).drop (dlen (s.toList.drop i)) with
  | nil =>
    have hf : frL (s.toList.drop i) = none := by unfold frL; rw [hl]
    rw [hl] at hdd
    have := byte_end hdd
    have ge : ((s.size : Int) ≤ ((i + dlen (s.toList.drop i) : Nat) : Int)) = True := eq_true (by omega)
    simp (maxDischargeDepth := 16) only [evN, ↓evP, simprocAttr, forall_const, nuE, fr.2, vbQi, fDigit_v, fInWord_v, aDig_v, aftV_v, ad, ge]
    simp only [frV, hf]; rfl
  | cons c m =>
    rw [hl] at hdd
    obtain ⟨hp, hc, hl', hsl, hb⟩ := byte_at hdd
    have ge : ((s.size : Int) ≤ ((i + dlen (s.toList.drop i) : Nat) : Int)) = False := eq_false (by omega)
    by_cases h46 : c = 46
    rotate_left
    · have hf : frL (s.toList.drop i) = none := by unfold frL; rw [hl]; simp only [if_neg h46]
      simp (maxDischargeDepth := 16) only [evN, ↓evP, simprocAttr, forall_const, nuE, fr.2, vbQi, fDigit_v, fInWord_v, aDig_v, aftV_v, ad, ge, hb, e46, e46', eq_false h46]
      simp only [frV, hf]; rfl
    have wp : IntKind.i64.wrap (((i + dlen (s.toList.drop i) : Nat) : Int) + 1) = ((i + dlen (s.toList.drop i) + 1 : Nat) : Int) := by rw [w_i64 (by omega) (by omega)]; omega
    have ad2 := aDig_v s (i + dlen (s.toList.drop i) + 1) (by omega) hs
    rw [hl'] at ad2
    have hm := dlen_le m
    have hml : i + dlen (s.toList.drop i) + 1 + m.length = s.size := by
      have := congrArg List.length hl'
      rw [List.length_drop, size_list] at this; omega
    by_cases h0 : dlen m = 0
    · have hf : frL (s.toList.drop i) = none := by unfold frL; rw [hl]; simp only [if_pos h46, if_pos h0]
      have q1 : (((i + dlen (s.toList.drop i) + 1 + dlen m : Nat) : Int) = ((i + dlen (s.toList.drop i) + 1 : Nat) : Int)) = True := eq_true (by omega)
      have q2 : (((i + dlen (s.toList.drop i) + 1 + dlen m : Nat) : Int) == ((i + dlen (s.toList.drop i) + 1 : Nat) : Int)) = true := by simp; omega
      simp (maxDischargeDepth := 16) only [evN, ↓evP, simprocAttr, forall_const, nuE, fr.2, vbQi, fDigit_v, fInWord_v, aDig_v, aftV_v, ad, ge, hb, e46, e46', eq_true h46, wp, ad2, q1, q2]
      simp only [frV, hf]; rfl
    have q1 : (((i + dlen (s.toList.drop i) + 1 + dlen m : Nat) : Int) = ((i + dlen (s.toList.drop i) + 1 : Nat) : Int)) = False := eq_false (by omega)
    have q2 : (((i + dlen (s.toList.drop i) + 1 + dlen m : Nat) : Int) == ((i + dlen (s.toList.drop i) + 1 : Nat) : Int)) = false := by simp; omega
    have hdd2 : s.toList.drop (i + dlen (s.toList.drop i) + 1 + dlen m) = m.drop (dlen m) := by rw [← List.drop_drop, hl']
    cases hl2 : m.drop (dlen m) with
    | nil =>
      have hf : frL (s.toList.drop i) = none := by unfold frL; rw [hl]; simp only [if_pos h46, if_neg h0, hl2]
      rw [hl2] at hdd2
      have := byte_end hdd2
      have ge2 : ((s.size : Int) ≤ ((i + dlen (s.toList.drop i) + 1 + dlen m : Nat) : Int)) = True := eq_true (by omega)
      simp (maxDischargeDepth := 16) only [evN, ↓evP, simprocAttr, forall_const, nuE, fr.2, vbQi, fDigit_v, fInWord_v, aDig_v, aftV_v, ad, ge, hb, e46, e46', eq_true h46, wp, ad2, q1, q2, ge2]
      simp only [frV, hf]; rfl
    | cons d n =>
      rw [hl2] at hdd2
      obtain ⟨hp2, hc2, hl2', hsl2, hb2⟩ := byte_at hdd2
      have ge2 : ((s.size : Int) ≤ ((i + dlen (s.toList.drop i) + 1 + dlen m : Nat) : Int)) = False := eq_false (by omega)
      by_cases h37 : d = 37
      · have hf : frL (s.toList.drop i) = some (dlen (s.toList.drop i), dlen m + 1) := by unfold frL; rw [hl]; simp only [if_pos h46, if_neg h0, hl2, if_pos h37]
        simp (maxDischargeDepth := 16) only [evN, ↓evP, simprocAttr, forall_const, nuE, fr.2, vbQi, fDigit_v, fInWord_v, aDig_v, aftV_v, ad, ge, hb, e46, e46', eq_true h46, wp, ad2, q1, q2, ge2, hb2, e37, e37', eq_true h37]
        simp only [frV, hf]
        rw [show i + dlen (s.toList.drop i) + (dlen m + 1) = i + dlen (s.toList.drop i) + 1 + dlen m by omega]
      · have hf : frL (s.toList.drop i) = none := by unfold frL; rw [hl]; simp only [if_pos h46, if_neg h0, hl2, if_neg h37]
        simp (maxDischargeDepth := 16) only [evN, ↓evP, simprocAttr, forall_const, nuE, fr.2, vbQi, fDigit_v, fInWord_v, aDig_v, aftV_v, ad, ge, hb, e46, e46', eq_true h46, wp, ad2, q1, q2, ge2, hb2, e37, e37', eq_false h37]
        simp only [frV, hf]; rfl
theorem fracV_v (s : ByteArray) (i : Nat) (hi : i ≤ s.size) (hs : s.size ≤ 100000) (A_ : AH) : valA Tryd.prog 23 #[.string s, .int .i64 (i : Int)] A_ = some (.tuple #[.int .i64 ((frV s i).1 : Int), .int .i64 ((frV s i).2 : Int)]) := valA_eq (pureA_of (by kernel_rfl) (fracV_h s i hi hs))
end Go.Proofs.YtfphceknmgadgaaDoor
namespace Go.Proofs.YtfphceknmgadgaaDoor
open Go.Vm
set_option maxHeartbeats 2000000
set_option maxRecDepth 20000
theorem frn_h (s : ByteArray) : CallA Tryd.prog 44 #[.string s] [] (fun u_ _ => u_ = .bool (!(reF s) && nameF s)) := by
  refine callA_of_denA ⟨Tryd.prog, 44, Tryd.f44, 23, [0, 2, 3], ⟨[], none⟩, [], _⟩ rfl (args := [_]) Tryd.func44 rfl (by kernel_rfl) Tryd.ntmps44 (by simp) (by kernel_rfl) ?_
  intro ν fr; have nuE := fr.nu
  simp (maxDischargeDepth := 16) only [evN, ↓evP, simprocAttr, forall_const, nuE, fr.2, vbQi, fDigit_v, fInWord_v, aDig_v, aftV_v, fracV_v]
  unfold reF resB feeB minB maxB
  repeat' split
  all_goals simp_all
theorem frn_v (s : ByteArray) (A_ : AH) : valA Tryd.prog 44 #[.string s] A_ = some (.bool (!(reF s) && nameF s)) := valA_eq (pureA_of (by kernel_rfl) (frn_h s))
theorem fallD_h (s : ByteArray) (hs : s.size ≤ 100000) : CallA Tryd.prog 17 #[.string s] [] (fun u_ _ => u_ = .bool (aldB s.toList)) := by
  refine callA_of_denA ⟨Tryd.prog, 17, Tryd.f17, 17, [0, 2, 3, 5, 6], ⟨[], none⟩, [], _⟩ rfl (args := [_]) Tryd.func17 rfl (by kernel_rfl) Tryd.ntmps17 (by simp) (by kernel_rfl) ?_
  intro ν fr; have nuE := fr.nu
  simp (maxDischargeDepth := 16) only [evN, ↓evP, simprocAttr, forall_const, nuE, fr.2, vbQi, fDigit_v, fInWord_v, aDig_v, aftV_v, fracV_v, frn_v]
  obtain ⟨e, he, h2, h3⟩ : ∃ e : Nat, e = 0 ∧ e ≤ s.size ∧ (s.toList.all fun c => digitB c.toNat) = ((s.toList.drop e).all fun c => digitB c.toNat) := ⟨0, rfl, by omega, rfl⟩
  rw [show (6, some (Value.int .i64 0)) = (6, some (Value.int .i64 (e : Int))) by rw [he]; rfl]
  clear he nuE fr
  generalize hl : s.toList.drop e = l at h3
  induction l generalizing e with
  | nil =>
    have hlt : ((e : Int) < (s.size : Int)) = False := by have := byte_end hl; simp; omega
    refine LoopA.intro (by kernel_rfl) ?_
    intro ν fr; have nuE := fr.nu
    simp (maxDischargeDepth := 16) only [evN, ↓evP, simprocAttr, forall_const, nuE, fr.2, vbQi, fDigit_v, fInWord_v, aDig_v, aftV_v, fracV_v, frn_v, hlt]
    unfold aldB
    rw [h3]
    by_cases h0 : s.toList = []
    · simp [h0]
    · simp [h0]
  | cons c l ih =>
    obtain ⟨hp, hc, hl', hsl, hb⟩ := byte_at hl
    have hlt : ((e : Int) < (s.size : Int)) = True := by simp; omega
    have we : IntKind.i64.wrap ((e : Int) + 1) = ((e + 1 : Nat) : Int) := by rw [w_i64 (by omega) (by omega)]; omega
    refine LoopA.intro (by kernel_rfl) ?_
    intro ν fr; have nuE := fr.nu
    rw [List.all_cons] at h3
    cases hw : digitB c.toNat with
    | true =>
      rw [hw, Bool.true_and] at h3
      simp (maxDischargeDepth := 16) only [evN, ↓evP, simprocAttr, forall_const, nuE, fr.2, vbQi, fDigit_v, fInWord_v, aDig_v, aftV_v, fracV_v, frn_v, hlt, hb, we, hw]
      exact LoopA.weak (ih (e + 1) (by omega) hl' h3) (by simp only [subE, get_cons, Nat.reduceEqDiff, ↓reduceIte, reduceCtorEq, Nat.reduceAdd, and_self, and_true]) (SubA.refl _)
    | false =>
      rw [hw, Bool.false_and] at h3
      simp (maxDischargeDepth := 16) only [evN, ↓evP, simprocAttr, forall_const, nuE, fr.2, vbQi, fDigit_v, fInWord_v, aDig_v, aftV_v, fracV_v, frn_v, hlt, hb, we, hw]
      unfold aldB
      rw [h3, Bool.and_false]
theorem fallD_v (s : ByteArray) (hs : s.size ≤ 100000) (A_ : AH) : valA Tryd.prog 17 #[.string s] A_ = some (.bool (aldB s.toList)) := valA_eq (pureA_of (by kernel_rfl) (fallD_h s hs))
theorem hund_h (n : Nat) (hn : n ≤ 2) : CallA Tryd.prog 18 #[.int .i64 (n : Int)] [] (fun u_ _ => u_ = .int .i64 ((100 * 10 ^ n : Nat) : Int)) := by
  refine callA_of_denA ⟨Tryd.prog, 18, Tryd.f18, 11, [0, 2, 3, 4, 5], ⟨[], none⟩, [], _⟩ rfl (args := [_]) Tryd.func18 rfl (by kernel_rfl) Tryd.ntmps18 (by simp) (by kernel_rfl) ?_
  intro ν fr; have nuE := fr.nu
  obtain rfl | rfl | rfl : n = 0 ∨ n = 1 ∨ n = 2 := by omega
  · simp (maxDischargeDepth := 16) only [evN, ↓evP, simprocAttr, forall_const, nuE, fr.2, vbQi, fDigit_v, fInWord_v, aDig_v, aftV_v, fracV_v, frn_v, fallD_v]
    clear nuE fr
    refine LoopA.intro (by kernel_rfl) ?_
    intro ν fr; have nuE := fr.nu
    simp (maxDischargeDepth := 16) only [evN, ↓evP, simprocAttr, forall_const, nuE, fr.2, vbQi, fDigit_v, fInWord_v, aDig_v, aftV_v, fracV_v, frn_v, fallD_v]
  · simp (maxDischargeDepth := 16) only [evN, ↓evP, simprocAttr, forall_const, nuE, fr.2, vbQi, fDigit_v, fInWord_v, aDig_v, aftV_v, fracV_v, frn_v, fallD_v]
    clear nuE fr
    refine LoopA.intro (by kernel_rfl) ?_
    intro ν fr; have nuE := fr.nu
    simp (maxDischargeDepth := 16) only [evN, ↓evP, simprocAttr, forall_const, nuE, fr.2, vbQi, fDigit_v, fInWord_v, aDig_v, aftV_v, fracV_v, frn_v, fallD_v]
    clear nuE fr
    refine LoopA.intro (by kernel_rfl) ?_
    intro ν fr; have nuE := fr.nu
    simp (maxDischargeDepth := 16) only [evN, ↓evP, simprocAttr, forall_const, nuE, fr.2, vbQi, fDigit_v, fInWord_v, aDig_v, aftV_v, fracV_v, frn_v, fallD_v]
    rfl
  · simp (maxDischargeDepth := 16) only [evN, ↓evP, simprocAttr, forall_const, nuE, fr.2, vbQi, fDigit_v, fInWord_v, aDig_v, aftV_v, fracV_v, frn_v, fallD_v]
    clear nuE fr
    refine LoopA.intro (by kernel_rfl) ?_
    intro ν fr; have nuE := fr.nu
    simp (maxDischargeDepth := 16) only [evN, ↓evP, simprocAttr, forall_const, nuE, fr.2, vbQi, fDigit_v, fInWord_v, aDig_v, aftV_v, fracV_v, frn_v, fallD_v]
    clear nuE fr
    refine LoopA.intro (by kernel_rfl) ?_
    intro ν fr; have nuE := fr.nu
    simp (maxDischargeDepth := 16) only [evN, ↓evP, simprocAttr, forall_const, nuE, fr.2, vbQi, fDigit_v, fInWord_v, aDig_v, aftV_v, fracV_v, frn_v, fallD_v]
    clear nuE fr
    refine LoopA.intro (by kernel_rfl) ?_
    intro ν fr; have nuE := fr.nu
    simp (maxDischargeDepth := 16) only [evN, ↓evP, simprocAttr, forall_const, nuE, fr.2, vbQi, fDigit_v, fInWord_v, aDig_v, aftV_v, fracV_v, frn_v, fallD_v]
    rfl
theorem hund_v (n : Nat) (hn : n ≤ 2) (A_ : AH) : valA Tryd.prog 18 #[.int .i64 (n : Int)] A_ = some (.int .i64 ((100 * 10 ^ n : Nat) : Int)) := valA_eq (pureA_of (by kernel_rfl) (hund_h n hn))
theorem last_ext {s : ByteArray} (h : 0 < s.size) : ∃ c, s.toList.getLast? = some c ∧ (s.extract (s.size - 1) s.size).toList = [c] ∧ s.extract 0 (s.size - 1) = bs s.toList.dropLast := by
  have hne : s.toList ≠ [] := fun e => by have := size_list s; rw [e] at this; simp at this; omega
  refine ⟨s.toList.getLast hne, List.getLast?_eq_some_getLast hne, ?_, ?_⟩
  · rw [ext_drop]
    conv => lhs; rw [← List.dropLast_concat_getLast hne]
    rw [List.drop_append, List.drop_eq_nil_of_le (by simp [size_list]), List.length_dropLast, size_list]
    simp
  · apply ba_list
    rw [bs_list, xt_list, List.drop_zero, List.dropLast_eq_take, size_list]
theorem hasS_h (s : ByteArray) (hs : s.size ≤ 100000) : CallA Tryd.prog 46 #[.string s, .string ⟨#[37]⟩] [] (fun u_ _ => u_ = .bool (decide (s.toList.getLast? = some 37))) := by
  refine callA_of_denA ⟨Tryd.prog, 46, Tryd.f46, 21, [0, 1, 4], ⟨[], none⟩, [], _⟩ rfl (args := [_, _]) Tryd.func46 rfl (by kernel_rfl) Tryd.ntmps46 (by simp) (by kernel_rfl) ?_
  intro ν fr; have nuE := fr.nu
  have l1 : ByteArray.size ⟨#[37]⟩ = 1 := rfl
  by_cases h0 : s.size = 0
  · have e0 : ((1 : Int) ≤ (s.size : Int)) = False := eq_false (by omega)
    have hn := toList_nil h0
    simp (maxDischargeDepth := 16) only [evN, ↓evP, simprocAttr, forall_const, nuE, fr.2, vbQi, fDigit_v, fInWord_v, aDig_v, aftV_v, fracV_v, frn_v, fallD_v, hund_v, l1, e0]
    rw [hn]; rfl
  · have e0 : ((1 : Int) ≤ (s.size : Int)) = True := eq_true (by omega)
    have w1 : IntKind.i64.wrap ((s.size : Int) - 1) = ((s.size - 1 : Nat) : Int) := by rw [w_i64 (by omega) (by omega)]; omega
    have e1 : (((s.size - 1 : Nat) : Int) ≤ (s.size : Int)) = True := eq_true (by omega)
    have e2 : ((0 : Int) ≤ ((s.size - 1 : Nat) : Int)) = True := eq_true (by omega)
    obtain ⟨c, h1, h2, h3⟩ := last_ext (s := s) (by omega)
    simp (maxDischargeDepth := 16) only [evN, ↓evP, simprocAttr, forall_const, nuE, fr.2, vbQi, fDigit_v, fInWord_v, aDig_v, aftV_v, fracV_v, frn_v, fallD_v, hund_v, l1, e0, w1, e1, e2, h2]
    rw [h1, show ByteArray.toList ⟨#[37]⟩ = [37] by rw [ByteArray.toList_eq]]
    congr 1
    rw [Bool.eq_iff_iff]; simp
theorem hasS_v (s : ByteArray) (hs : s.size ≤ 100000) (A_ : AH) : valA Tryd.prog 46 #[.string s, .string ⟨#[37]⟩] A_ = some (.bool (decide (s.toList.getLast? = some 37))) := valA_eq (pureA_of (by kernel_rfl) (hasS_h s hs))
theorem cutL_h (s : ByteArray) (hs : s.size ≤ 100000) : CallA Tryd.prog 34 #[.string s, .string ⟨#[37]⟩] [] (fun u_ _ => u_ = (if s.toList.getLast? = some 37 then .tuple #[.string (bs s.toList.dropLast), .bool true] else .tuple #[.string s, .bool false])) := by
  refine callA_of_denA ⟨Tryd.prog, 34, Tryd.f34, 18, [0, 1, 4, 5], ⟨[], none⟩, [], _⟩ rfl (args := [_, _]) Tryd.func34 rfl (by kernel_rfl) Tryd.ntmps34 (by simp) (by kernel_rfl) ?_
  intro ν fr; have nuE := fr.nu
  have l1 : ByteArray.size ⟨#[37]⟩ = 1 := rfl
  have hv := hasS_v s hs
  by_cases h : s.toList.getLast? = some 37
  · have h0 : 0 < s.size := by
      rcases Nat.eq_zero_or_pos s.size with h0 | h0
      · rw [toList_nil h0] at h; cases h
      · exact h0
    have w1 : IntKind.i64.wrap ((s.size : Int) - 1) = ((s.size - 1 : Nat) : Int) := by rw [w_i64 (by omega) (by omega)]; omega
    have e1 : (((s.size - 1 : Nat) : Int) ≤ (s.size : Int)) = True := eq_true (by omega)
    have e2 : ((0 : Int) ≤ ((s.size - 1 : Nat) : Int)) = True := eq_true (by omega)
    obtain ⟨c, h1, h2, h3⟩ := last_ext h0
    simp only [h, decide_true] at hv
    rw [if_pos h]
    simp (maxDischargeDepth := 16) only [evN, ↓evP, simprocAttr, forall_const, nuE, fr.2, vbQi, fDigit_v, fInWord_v, aDig_v, aftV_v, fracV_v, frn_v, fallD_v, hund_v, hasS_v, hv, l1, w1, e1, e2, h3]
  · simp only [h, decide_false] at hv
    rw [if_neg h]
    simp (maxDischargeDepth := 16) only [evN, ↓evP, simprocAttr, forall_const, nuE, fr.2, vbQi, fDigit_v, fInWord_v, aDig_v, aftV_v, fracV_v, frn_v, fallD_v, hund_v, hasS_v, hv]
theorem cutL_v (s : ByteArray) (hs : s.size ≤ 100000) (A_ : AH) : valA Tryd.prog 34 #[.string s, .string ⟨#[37]⟩] A_ = some ((if s.toList.getLast? = some 37 then .tuple #[.string (bs s.toList.dropLast), .bool true] else .tuple #[.string s, .bool false])) := valA_eq (pureA_of (by kernel_rfl) (cutL_h s hs))
theorem cutS_h (s : ByteArray) (hs : s.size ≤ 100000) : CallA Tryd.prog 15 #[.string s, .string ⟨#[37]⟩] [] (fun u_ _ => u_ = (if s.toList.getLast? = some 37 then .tuple #[.string (bs s.toList.dropLast), .bool true] else .tuple #[.string s, .bool false])) := by
  refine callA_of_denA ⟨Tryd.prog, 15, Tryd.f15, 11, [0, 1, 4, 5], ⟨[], none⟩, [], _⟩ rfl (args := [_, _]) Tryd.func15 rfl (by kernel_rfl) Tryd.ntmps15 (by simp) (by kernel_rfl) ?_
  intro ν fr; have nuE := fr.nu
  have cv := cutL_v s hs
  by_cases h : s.toList.getLast? = some 37
  · rw [if_pos h] at cv ⊢
    simp (maxDischargeDepth := 16) only [evN, ↓evP, simprocAttr, forall_const, nuE, fr.2, vbQi, fDigit_v, fInWord_v, aDig_v, aftV_v, fracV_v, frn_v, fallD_v, hund_v, hasS_v, cutL_v, cv]
  · rw [if_neg h] at cv ⊢
    simp (maxDischargeDepth := 16) only [evN, ↓evP, simprocAttr, forall_const, nuE, fr.2, vbQi, fDigit_v, fInWord_v, aDig_v, aftV_v, fracV_v, frn_v, fallD_v, hund_v, hasS_v, cutL_v, cv]
theorem cutS_v (s : ByteArray) (hs : s.size ≤ 100000) (A_ : AH) : valA Tryd.prog 15 #[.string s, .string ⟨#[37]⟩] A_ = some ((if s.toList.getLast? = some 37 then .tuple #[.string (bs s.toList.dropLast), .bool true] else .tuple #[.string s, .bool false])) := valA_eq (pureA_of (by kernel_rfl) (cutS_h s hs))
def cutP : List UInt8 → List UInt8 × Option (List UInt8)
  | [] => ([], none)
  | c :: l => if c = 46 then ([], some l) else (c :: (cutP l).1, (cutP l).2)
theorem cutP_ix : ∀ l : List UInt8, if Lib.indexByte l 46 = -1 then cutP l = (l, none) else cutP l = (l.take (Lib.indexByte l 46).toNat, some (l.drop ((Lib.indexByte l 46).toNat + 1)))
  | [] => by simp [Lib.indexByte, cutP]
  | c :: l => by
    have ih := cutP_ix l
    have hge := Lib.indexByte_ge l 46
    by_cases hc : c = 46
    · subst hc; simp [Lib.indexByte, cutP]
    · simp only [cutP, if_neg hc, Lib.indexByte, beq_iff_eq]
      by_cases h2 : Lib.indexByte l 46 = -1
      · rw [if_pos h2] at ih
        simp [h2, ih]
      · rw [if_neg h2] at ih
        have h3 : Lib.indexByte l 46 + 1 ≠ -1 := by omega
        have h4 : (Lib.indexByte l 46 + 1).toNat = (Lib.indexByte l 46).toNat + 1 := by omega
        simp [h2, h3, h4, ih]
theorem idxP_h (s : ByteArray) (hs : s.size ≤ 100000) : CallA Tryd.prog 47 #[.string s, .string ⟨#[46]⟩] [] (fun u_ _ => u_ = .int .i64 (Lib.indexByte s.toList 46)) := by
  refine callA_of_denA ⟨Tryd.prog, 47, Tryd.f47, 143, [0, 1, 4, 5, 6, 7, 8, 9, 10, 11, 12, 13], ⟨[], none⟩, [], _⟩ rfl (args := [_, _]) Tryd.func47 rfl (by kernel_rfl) Tryd.ntmps47 (by simp) (by kernel_rfl) ?_
  intro ν fr; have nuE := fr.nu
  have l1 : ByteArray.size ⟨#[46]⟩ = 1 := rfl
  simp (maxDischargeDepth := 16) only [evN, ↓evP, simprocAttr, forall_const, nuE, fr.2, vbQi, fDigit_v, fInWord_v, aDig_v, aftV_v, fracV_v, frn_v, fallD_v, hund_v, hasS_v, cutL_v, cutS_v, l1, show Nat.toUInt8 46 = 46 from rfl]
  rw [show ByteArray.toList ⟨#[46]⟩ = [46] by rw [ByteArray.toList_eq]]
  split
  · rename_i h; rw [← h]; rfl
  · rw [← ByteArray.toList_eq]
theorem idxP_v (s : ByteArray) (hs : s.size ≤ 100000) (A_ : AH) : valA Tryd.prog 47 #[.string s, .string ⟨#[46]⟩] A_ = some (.int .i64 (Lib.indexByte s.toList 46)) := valA_eq (pureA_of (by kernel_rfl) (idxP_h s hs))
def cutT (s : ByteArray) : Value := match (cutP s.toList).2 with | none => .tuple #[.string s, .string ⟨#[]⟩, .bool false] | some f => .tuple #[.string (bs (cutP s.toList).1), .string (bs f), .bool true]
theorem cutI_h (s : ByteArray) (hs : s.size ≤ 100000) : CallA Tryd.prog 35 #[.string s, .string ⟨#[46]⟩] [] (fun u_ _ => u_ = cutT s) := by
  refine callA_of_denA ⟨Tryd.prog, 35, Tryd.f35, 23, [0, 1, 4, 5, 6, 7], ⟨[], none⟩, [(3, .q false)], _⟩ rfl (args := [_, _]) Tryd.func35 rfl (by kernel_rfl) Tryd.ntmps35 (by simp) (by kernel_rfl) ?_
  intro ν fr; have nuE := fr.nu
  have l1 : ByteArray.size ⟨#[46]⟩ = 1 := rfl
  have iv := idxP_v s hs
  have hx := cutP_ix s.toList
  have hge := Lib.indexByte_ge s.toList 46
  by_cases h : Lib.indexByte s.toList 46 = -1
  · rw [if_pos h] at hx
    simp only [h] at iv
    have ec : cutT s = .tuple #[.string s, .string ⟨#[]⟩, .bool false] := by unfold cutT; rw [hx]
    rw [ec]
    simp (maxDischargeDepth := 16) only [evN, ↓evP, simprocAttr, forall_const, nuE, fr.2, vbQi, fDigit_v, fInWord_v, aDig_v, aftV_v, fracV_v, frn_v, fallD_v, hund_v, hasS_v, cutL_v, cutS_v, idxP_v, iv]
  · rw [if_neg h] at hx
    obtain ⟨q, hq⟩ := Int.eq_ofNat_of_zero_le (show 0 ≤ Lib.indexByte s.toList 46 by omega)
    have hlt : q < s.size := by
      rcases index_lt s.toList 46 with h1 | h1
      · rw [size_list, hq] at h1; omega
      · exfalso; apply h; rw [h1]; rfl
    rw [hq, Int.toNat_natCast] at hx
    simp only [hq] at iv
    have ec : cutT s = .tuple #[.string (bs (s.toList.take q)), .string (bs (s.toList.drop (q + 1))), .bool true] := by unfold cutT; rw [hx]
    rw [ec]
    have w1 : IntKind.i64.wrap ((q : Int) + 1) = ((q + 1 : Nat) : Int) := by rw [w_i64 (by omega) (by omega)]; omega
    have e0 : ((0 : Int) ≤ (q : Int)) = True := eq_true (by omega)
    have e1 : (((q : Nat) : Int) ≤ (s.size : Int)) = True := eq_true (by omega)
    have e2 : (((q + 1 : Nat) : Int) ≤ (s.size : Int)) = True := eq_true (by omega)
    have e3 : ((0 : Int) ≤ ((q + 1 : Nat) : Int)) = True := eq_true (by omega)
    have x1 : s.extract 0 q = bs (s.toList.take q) := ba_list (by rw [bs_list, xt_list, List.drop_zero])
    have x2 : s.extract (q + 1) s.size = bs (s.toList.drop (q + 1)) := ba_list (by rw [bs_list, ext_drop])
    simp (maxDischargeDepth := 16) only [evN, ↓evP, simprocAttr, forall_const, nuE, fr.2, vbQi, fDigit_v, fInWord_v, aDig_v, aftV_v, fracV_v, frn_v, fallD_v, hund_v, hasS_v, cutL_v, cutS_v, idxP_v, iv, l1, w1, e0, e1, e2, e3, x1, x2]
theorem cutI_v (s : ByteArray) (hs : s.size ≤ 100000) (A_ : AH) : valA Tryd.prog 35 #[.string s, .string ⟨#[46]⟩] A_ = some (cutT s) := valA_eq (pureA_of (by kernel_rfl) (cutI_h s hs))
theorem cutV_h (s : ByteArray) (hs : s.size ≤ 100000) : CallA Tryd.prog 16 #[.string s, .string ⟨#[46]⟩] [] (fun u_ _ => u_ = cutT s) := by
  refine callA_of_denA ⟨Tryd.prog, 16, Tryd.f16, 13, [0, 1, 4, 5, 6], ⟨[], none⟩, [], _⟩ rfl (args := [_, _]) Tryd.func16 rfl (by kernel_rfl) Tryd.ntmps16 (by simp) (by kernel_rfl) ?_
  intro ν fr; have nuE := fr.nu
  have cv := cutI_v s hs
  unfold cutT at cv ⊢
  cases hc : (cutP s.toList).2 with
  | none =>
    rw [hc] at cv
    simp (maxDischargeDepth := 16) only [evN, ↓evP, simprocAttr, forall_const, nuE, fr.2, vbQi, fDigit_v, fInWord_v, aDig_v, aftV_v, fracV_v, frn_v, fallD_v, hund_v, hasS_v, cutL_v, cutS_v, idxP_v, cutI_v, cv]
  | some f =>
    rw [hc] at cv
    simp (maxDischargeDepth := 16) only [evN, ↓evP, simprocAttr, forall_const, nuE, fr.2, vbQi, fDigit_v, fInWord_v, aDig_v, aftV_v, fracV_v, frn_v, fallD_v, hund_v, hasS_v, cutL_v, cutS_v, idxP_v, cutI_v, cv]
theorem cutV_v (s : ByteArray) (hs : s.size ≤ 100000) (A_ : AH) : valA Tryd.prog 16 #[.string s, .string ⟨#[46]⟩] A_ = some (cutT s) := valA_eq (pureA_of (by kernel_rfl) (cutV_h s hs))
end Go.Proofs.YtfphceknmgadgaaDoor
namespace Go.Proofs.YtfphceknmgadgaaDoor
open Go.Vm
set_option maxHeartbeats 4000000
set_option maxRecDepth 20000
theorem dlen_all : ∀ l : List UInt8, (l.all fun c => digitB c.toNat) = true → ∀ r : List UInt8, (∀ c m, r = c :: m → digitB c.toNat = false) → dlen (l ++ r) = l.length
  | [], _, r, h => by
    cases r with
    | nil => rfl
    | cons c m => simp only [List.nil_append, dlen, h c m rfl]; rfl
  | c :: l, ha, r, h => by
    rw [List.all_cons, Bool.and_eq_true] at ha
    simp only [List.cons_append, dlen, ha.1, if_true, dlen_all l ha.2 r h, List.length_cons]
def restP : Option (List UInt8) → List UInt8
  | none => []
  | some f => 46 :: f
theorem cutP_app : ∀ l : List UInt8, l = (cutP l).1 ++ restP (cutP l).2
  | [] => rfl
  | c :: l => by
    have := cutP_app l
    by_cases hc : c = 46
    · simp [cutP, hc, restP]
    · simp only [cutP, if_neg hc, List.cons_append]
      rw [← this]
theorem cutP_no : ∀ l : List UInt8, (46 : UInt8) ∉ (cutP l).1
  | [] => by simp [cutP]
  | c :: l => by
    have := cutP_no l
    by_cases hc : c = 46
    · simp [cutP, hc]
    · simp only [cutP, if_neg hc, List.mem_cons, not_or]
      exact ⟨fun e => hc e.symm, this⟩
theorem dlen_bad : ∀ (l r : List UInt8), l ≠ [] → (l.all fun c => digitB c.toNat) = false → ∃ c m, (l ++ r).drop (dlen (l ++ r)) = c :: m ∧ c ∈ l
  | [], _, h, _ => absurd rfl h
  | c :: l, r, _, h => by
    by_cases hc : digitB c.toNat = true
    · rw [List.all_cons, hc, Bool.true_and] at h
      have hne : l ≠ [] := fun e => by rw [e] at h; cases h
      obtain ⟨d, m, h1, h2⟩ := dlen_bad l r hne h
      exact ⟨d, m, by simp only [List.cons_append, dlen, hc, if_true, List.drop_succ_cons]; exact h1, List.mem_cons_of_mem _ h2⟩
    · exact ⟨c, l ++ r, by simp [dlen, hc], List.mem_cons_self ..⟩
def frB : Option (List UInt8) → Bool
  | none => true
  | some f => decide (f.length ≤ 2) && (aldB f && !(decide (f.getLast? = some 48)))
def frN : Option (List UInt8) → Nat
  | none => 0
  | some f => if f.length = 2 then valD f else valD f * 10
def ppC (w : List UInt8) (f : Option (List UInt8)) : Int × Int :=
  if ppW w = false then (0, 2) else if frB f = false then (0, 2) else if 3 < w.length then (0, 4) else if 10000 < valD w * 100 + frN f then (0, 4) else ((valD w * 100 + frN f : Nat), 0)
theorem ppR_cut {s : List UInt8} (h0 : s ≠ []) (hl : s.getLast? = some 37) : ppR s = ppC (cutP s.dropLast).1 (cutP s.dropLast).2 := by
  unfold ppR
  rw [if_neg h0, if_neg (by rw [hl]; simp)]
  generalize s.dropLast = b
  have happ := cutP_app b
  have hno := cutP_no b
  obtain ⟨w, hw⟩ : ∃ w, (cutP b).1 = w := ⟨_, rfl⟩
  obtain ⟨f, hf⟩ : ∃ f, (cutP b).2 = f := ⟨_, rfl⟩
  rw [hw, hf] at happ
  rw [hw] at hno
  rw [hw, hf]
  unfold ppC
  by_cases ha : (w.all fun c => digitB c.toNat) = true
  · have hd : dlen b = w.length := by
      rw [happ]
      refine dlen_all w ha _ ?_
      intro c m e
      cases f with
      | none => cases e
      | some f => simp only [restP, List.cons.injEq] at e; rw [← e.1]; rfl
    have ht : b.take (dlen b) = w := by rw [hd, happ]; simp
    have hdr : b.drop (dlen b) = restP f := by rw [hd, happ]; simp
    rw [ht, hdr, hd]
    cases f with
    | none => simp only [restP, frB, frN, Bool.true_eq_false, if_false, Nat.add_zero]; rfl
    | some f =>
      have hc : (2 < f.length ∨ aldB f = false ∨ f.getLast? = some 48) ↔ frB (some f) = false := by
        simp only [frB, Bool.and_eq_false_iff, decide_eq_false_iff_not, Bool.not_eq_false', decide_eq_true_eq]
        rw [Nat.not_le]
      simp only [restP]
      by_cases h1 : frB (some f) = false
      · rw [if_pos h1]
        simp [hc.2 h1]
      · rw [if_neg h1]
        have h2 : ¬ (2 < f.length ∨ aldB f = false ∨ f.getLast? = some 48) := fun e => h1 (hc.1 e)
        simp only [ne_eq, not_true_eq_false, false_or, if_neg h2, frN]; rfl
  · have ha' : (w.all fun c => digitB c.toNat) = false := by simpa using ha
    have hpw : ppW w = false := by unfold ppW aldB; rw [ha']; simp
    rw [if_pos hpw]
    by_cases hne : w = []
    · rw [hne] at ha'; cases ha'
    obtain ⟨c, m, h1, h2⟩ := dlen_bad w (restP f) hne ha'
    rw [← happ] at h1
    rw [h1]
    have hc : c ≠ 46 := fun e => hno (by rw [← e]; exact h2)
    simp [hc]
theorem decV_lin : ∀ (l : List UInt8) (a : Nat), decV l a = a * 10 ^ l.length + decV l 0
  | [], a => by simp [decV]
  | c :: l, a => by
    rw [decV, decV, decV_lin l (10 * a + (c.toNat - 48)), decV_lin l (10 * 0 + (c.toNat - 48)), List.length_cons, Nat.pow_succ, Nat.add_mul, Nat.add_mul]
    have : 10 * a * 10 ^ l.length = a * (10 ^ l.length * 10) := by rw [Nat.mul_comm 10 a, Nat.mul_assoc, Nat.mul_comm 10]
    omega
theorem decV_one (c : UInt8) (l : List UInt8) : decV (c :: l) 0 = (c.toNat - 48) * 10 ^ l.length + decV l 0 := by rw [decV, decV_lin]; simp
theorem ppV_h (s : ByteArray) (hs : s.size ≤ 100000) : CallA Tryd.prog 7 #[.string s] [] (fun u_ _ => u_ = .tuple #[.int .i64 (ppR s.toList).1, .int .i64 (ppR s.toList).2]) := by
  refine callA_of_denA ⟨Tryd.prog, 7, Tryd.f7, 96, [0, 2, 3, 4, 5, 6, 7, 8, 9, 10, 74, 75], ⟨[], none⟩, [(21, .q false)], _⟩ rfl (args := [_]) Tryd.func7 rfl (by kernel_rfl) Tryd.ntmps7 (by simp) (by kernel_rfl) ?_
  intro ν fr; have nuE := fr.nu
  by_cases h0 : s.toList = []
  · have hr : ppR s.toList = (0, 1) := by unfold ppR; rw [if_pos h0]
    rw [hr]
    simp (maxDischargeDepth := 16) only [evN, ↓evP, simprocAttr, forall_const, nuE, fr.2, vbQi, fDigit_v, fInWord_v, aDig_v, aftV_v, fracV_v, frn_v, fallD_v, hund_v, hasS_v, cutL_v, cutS_v, idxP_v, cutI_v, cutV_v, eq_true h0]
  have cs := cutS_v s hs
  by_cases hl : s.toList.getLast? = some 37
  rotate_left
  · have hr : ppR s.toList = (0, 2) := by unfold ppR; rw [if_neg h0, if_pos hl]
    rw [hr]
    rw [if_neg hl] at cs
    simp (maxDischargeDepth := 16) only [evN, ↓evP, simprocAttr, forall_const, nuE, fr.2, vbQi, fDigit_v, fInWord_v, aDig_v, aftV_v, fracV_v, frn_v, fallD_v, hund_v, hasS_v, cutL_v, cutS_v, idxP_v, cutI_v, cutV_v, eq_false h0, cs]
  rw [if_pos hl] at cs
  rw [ppR_cut h0 hl]
  obtain ⟨b, hb⟩ : ∃ b, s.toList.dropLast = b := ⟨_, rfl⟩
  rw [hb] at cs ⊢
  have hbl : b.length ≤ 100000 := by rw [← hb, List.length_dropLast, size_list]; omega
  have cv0 := cutV_v (bs b) (by rw [bs_size]; exact hbl)
  unfold cutT at cv0
  rw [bs_list] at cv0
  have happ := cutP_app b
  obtain ⟨w, hw⟩ : ∃ w, (cutP b).1 = w := ⟨_, rfl⟩
  obtain ⟨f, hf⟩ : ∃ f, (cutP b).2 = f := ⟨_, rfl⟩
  rw [hw, hf] at happ ⊢
  rw [hw, hf] at cv0
  have cv : ∀ A, valA Tryd.prog 16 #[.string (bs b), .string ⟨#[46]⟩] A = some (.tuple #[.string (bs w), .string (bs (f.getD [])), .bool f.isSome]) := fun A => by
    cases f with
    | none =>
      have : b = w := by rw [happ]; simp [restP]
      have h2 := cv0 A
      simp only at h2
      rw [h2, this]; rfl
    | some f => exact cv0 A
  clear cv0
  have hwl : w.length ≤ 100000 := by have := congrArg List.length happ; rw [List.length_append] at this; omega
  have hfl : (f.getD []).length ≤ 100000 := by
    have := congrArg List.length happ
    rw [List.length_append] at this
    cases f with
    | none => simp
    | some f => simp only [restP, List.length_cons] at this; simp only [Option.getD_some]; omega
  have aw := fallD_v (bs w) (by rw [bs_size]; exact hwl)
  have af := fallD_v (bs (f.getD [])) (by rw [bs_size]; exact hfl)
  rw [bs_list] at aw af
  have ne0 := eq_false h0
  clear happ hbl hw hf hb hl h0
  cases ha : aldB w with
  | false =>
    have hp : ppW w = false := by simp [ppW, ha]
    have hr : ppC w f = (0, 2) := by unfold ppC; rw [if_pos hp]
    rw [hr]
    rw [ha] at aw
    simp (maxDischargeDepth := 16) only [evN, ↓evP, simprocAttr, forall_const, nuE, fr.2, vbQi, fDigit_v, fInWord_v, aDig_v, aftV_v, fracV_v, frn_v, fallD_v, hund_v, hasS_v, cutL_v, cutS_v, idxP_v, cutI_v, cutV_v, ne0, cs, cv, aw]
  | true =>
  rw [ha] at aw
  obtain ⟨c0, w', rfl⟩ : ∃ c0 w', w = c0 :: w' := by
    cases w with
    | nil => cases ha
    | cons c w => exact ⟨c, w, rfl⟩
  have i0 : (bs (c0 :: w')).data[0]? = some c0 := rfl
  have e48 : ((c0.toNat : Int) = 48) = (c0 = 48) := propext ⟨fun h => by rw [← UInt8.toNat_inj]; have : (48 : UInt8).toNat = 48 := rfl; omega, fun h => by rw [h]; rfl⟩
  have e48' : ((c0.toNat : Int) == 48) = decide (c0 = 48) := by
    by_cases h : c0 = 48
    · subst h; rfl
    · have h2 : ¬ (c0.toNat : Int) = 48 := by rw [e48]; exact h
      simp [h, h2]
  by_cases hz : 0 < w'.length ∧ c0 = 48
  · have hp : ppW (c0 :: w') = false := by
      obtain ⟨z1, z2⟩ := hz
      simp only [ppW, Bool.and_eq_false_iff, Bool.not_eq_false', Bool.and_eq_true, decide_eq_true_eq]
      right; exact ⟨by simp; omega, by rw [z2]; rfl⟩
    have hr : ppC (c0 :: w') f = (0, 2) := by unfold ppC; rw [if_pos hp]
    rw [hr]
    have hg : ((1 : Int) < ((w'.length + 1 : Nat) : Int)) = True := eq_true (by omega)
    simp (maxDischargeDepth := 16) only [evN, ↓evP, simprocAttr, forall_const, nuE, fr.2, vbQi, fDigit_v, fInWord_v, aDig_v, aftV_v, fracV_v, frn_v, fallD_v, hund_v, hasS_v, cutL_v, cutS_v, idxP_v, cutI_v, cutV_v, ne0, cs, cv, aw, bs_size, hg, i0, e48, e48', eq_true hz.2]
  have hp : ppW (c0 :: w') = true := by
    simp only [ppW, ha, Bool.true_and, Bool.not_eq_true', Bool.and_eq_false_iff, decide_eq_false_iff_not]
    by_cases h1 : 0 < w'.length
    · right; intro h; simp at h; exact hz ⟨h1, h⟩
    · left; rw [List.length_cons]; omega
  have had : ((c0 :: w').all fun c => digitB c.toNat) = true := by simp only [aldB, Bool.and_eq_true] at ha; exact ha.2
  rcases Nat.eq_zero_or_pos w'.length with hw0 | hw0
  · have hgx : ((1 : Int) < ((w'.length + 1 : Nat) : Int)) = False := eq_false (by omega)
    have h48 : True := trivial
    by_cases hf : frB f = false
    · have hr : ppC (c0 :: w') f = (0, 2) := by unfold ppC; rw [if_neg (by rw [hp]; simp), if_pos hf]
      rw [hr]
      cases f with
      | none => cases hf
      | some g =>
        simp only [Option.getD_some, Option.isSome_some] at cv af hfl
        by_cases h2 : 2 < g.length
        · have h2' : ((2 : Int) < (g.length : Int)) = True := eq_true (by omega)
          simp (maxDischargeDepth := 16) only [evN, ↓evP, simprocAttr, forall_const, nuE, fr.2, vbQi, fDigit_v, fInWord_v, aDig_v, aftV_v, fracV_v, frn_v, fallD_v, hund_v, hasS_v, cutL_v, cutS_v, idxP_v, cutI_v, cutV_v, ne0, cs, cv, aw, bs_size, hgx, i0, e48, e48', h48, h2']
        have h2' : ((2 : Int) < (g.length : Int)) = False := eq_false (by omega)
        cases hg : aldB g with
        | false =>
          rw [hg] at af
          simp (maxDischargeDepth := 16) only [evN, ↓evP, simprocAttr, forall_const, nuE, fr.2, vbQi, fDigit_v, fInWord_v, aDig_v, aftV_v, fracV_v, frn_v, fallD_v, hund_v, hasS_v, cutL_v, cutS_v, idxP_v, cutI_v, cutV_v, ne0, cs, cv, aw, bs_size, hgx, i0, e48, e48', h48, h2', af]
        | true =>
          rw [hg] at af
          have hlast : g.getLast? = some 48 := by
            simp only [frB, hg, Bool.true_and, Bool.and_eq_false_iff, decide_eq_false_iff_not, Bool.not_eq_false', decide_eq_true_eq] at hf
            exact hf.resolve_left fun h => h (by omega)
          have hgl : 0 < g.length := by cases g with | nil => cases hg | cons x y => simp
          have ws : IntKind.i64.wrap ((g.length : Int) - 1) = ((g.length - 1 : Nat) : Int) := by rw [w_i64 (by omega) (by omega)]; omega
          have hix : (bs g).data[g.length - 1]? = some 48 := by rw [← Array.getElem?_toList, bs_data, ← List.getLast?_eq_getElem?]; exact hlast
          have lix : (((g.length - 1 : Nat) : Int) < 0) = False := eq_false (by omega)
          simp (maxDischargeDepth := 16) only [evN, ↓evP, simprocAttr, forall_const, nuE, fr.2, vbQi, fDigit_v, fInWord_v, aDig_v, aftV_v, fracV_v, frn_v, fallD_v, hund_v, hasS_v, cutL_v, cutS_v, idxP_v, cutI_v, cutV_v, ne0, cs, cv, aw, bs_size, hgx, i0, e48, e48', h48, h2', af, ws, hix, lix]
          first | done | rfl | trace_state
    have hft : frB f = true := by simpa using hf
    have hr : ppC (c0 :: w') f = if 3 < (c0 :: w').length then ((0 : Int), (4 : Int)) else if 10000 < valD (c0 :: w') * 100 + frN f then (0, 4) else (((valD (c0 :: w') * 100 + frN f : Nat) : Int), 0) := by unfold ppC; rw [if_neg (by rw [hp]; simp), if_neg hf]
    rw [hr]
    clear hr hf
    cases f with
    | none =>
      simp only [Option.getD_none, Option.isSome_none] at cv
      by_cases h3 : 3 < (c0 :: w').length
      · have h3' : ((3 : Int) < ((w'.length + 1 : Nat) : Int)) = True := eq_true (by rw [List.length_cons] at h3; omega)
        rw [if_pos h3]
        simp (maxDischargeDepth := 16) only [evN, ↓evP, simprocAttr, forall_const, nuE, fr.2, vbQi, fDigit_v, fInWord_v, aDig_v, aftV_v, fracV_v, frn_v, fallD_v, hund_v, hasS_v, cutL_v, cutS_v, idxP_v, cutI_v, cutV_v, ne0, cs, cv, aw, bs_size, hgx, i0, e48, e48', h48, Bool.false_eq_true, h3']
      have h3' : ((3 : Int) < ((w'.length + 1 : Nat) : Int)) = False := eq_false (by rw [List.length_cons] at h3; omega)
      rw [if_neg h3]
      simp (maxDischargeDepth := 16) only [evN, ↓evP, simprocAttr, forall_const, nuE, fr.2, vbQi, fDigit_v, fInWord_v, aDig_v, aftV_v, fracV_v, frn_v, fallD_v, hund_v, hasS_v, cutL_v, cutS_v, idxP_v, cutI_v, cutV_v, ne0, cs, cv, aw, bs_size, hgx, i0, e48, e48', h48, Bool.false_eq_true, h3']
      have hv0 : frN none = 0 := by rfl
      clear nuE fr
      obtain ⟨e, v, he, hv, hle, hvl, hinv⟩ : ∃ (e v : Nat), e = 0 ∧ v = 0 ∧ e ≤ (c0 :: w').length ∧ v ≤ 100 + e * 90000 ∧ v + 100 * decV ((c0 :: w').drop e) 0 = 0 + 100 * decV (c0 :: w') 0 := ⟨0, 0, rfl, rfl, by omega, by omega, rfl⟩
      rw [show (75, some (Value.int .i64 0)) = (75, some (Value.int .i64 (e : Int))) by rw [he]; rfl, show (9, some (Value.int .i64 0)) = (9, some (Value.int .i64 (v : Int))) by rw [hv]; rfl]
      rw [hv0]
      clear he hv hv0
      generalize hl : (c0 :: w').drop e = l at hinv
      induction l generalizing e v with
      | nil =>
        have hn : e = (c0 :: w').length := by have := congrArg List.length hl; simp only [List.length_drop, List.length_nil, List.length_cons] at this hle ⊢; omega
        have hlt : ((e : Int) < ((w'.length + 1 : Nat) : Int)) = False := eq_false (by rw [hn, List.length_cons]; omega)
        have hve : v = valD (c0 :: w') * 100 + 0 := by unfold valD; simp only [decV] at hinv ⊢; omega
        refine LoopA.intro (by kernel_rfl) ?_
        intro ν fr; have nuE := fr.nu
        by_cases hbig : 10000 < valD (c0 :: w') * 100 + 0
        · have hb' : ((10000 : Int) < (v : Int)) = True := eq_true (by omega)
          rw [if_pos hbig]
          simp (maxDischargeDepth := 16) only [evN, ↓evP, simprocAttr, forall_const, nuE, fr.2, vbQi, fDigit_v, fInWord_v, aDig_v, aftV_v, fracV_v, frn_v, fallD_v, hund_v, hasS_v, cutL_v, cutS_v, idxP_v, cutI_v, cutV_v, hlt, hb']
        · have hb' : ((10000 : Int) < (v : Int)) = False := eq_false (by omega)
          rw [if_neg hbig]
          simp (maxDischargeDepth := 16) only [evN, ↓evP, simprocAttr, forall_const, nuE, fr.2, vbQi, fDigit_v, fInWord_v, aDig_v, aftV_v, fracV_v, frn_v, fallD_v, hund_v, hasS_v, cutL_v, cutS_v, idxP_v, cutI_v, cutV_v, hlt, hb']
          rw [hve]; try rfl
      | cons c l ih =>
        have hln : e + (l.length + 1) = (c0 :: w').length := by have := congrArg List.length hl; simp only [List.length_drop, List.length_cons] at this ⊢; omega
        have hcd : digitB c.toNat = true := List.all_eq_true.1 had c (List.mem_of_mem_drop (by rw [hl]; exact List.mem_cons_self ..))
        obtain ⟨b5, b6⟩ := dig_bounds hcd
        have hlt : ((e : Int) < ((w'.length + 1 : Nat) : Int)) = True := eq_true (by rw [List.length_cons] at hln; omega)
        have li : ((e : Int) < 0) = False := eq_false (by omega)
        have hb : (bs (c0 :: w')).data[e]? = some c := by rw [← Array.getElem?_toList, bs_data, ← List.head?_drop, hl]; rfl
        have hl' : (c0 :: w').drop (e + 1) = l := by rw [← List.drop_drop, hl]; rfl
        have we : IntKind.i64.wrap ((e : Int) + 1) = ((e + 1 : Nat) : Int) := by rw [w_i64 (by omega) (by omega)]; omega
        have t1 : IntKind.u8.wrap ((c.toNat : Int) - 48) = ((c.toNat - 48 : Nat) : Int) := by rw [w_u8 (by omega) (by omega)]; omega
        have t2 : IntKind.i64.wrap ((c.toNat - 48 : Nat) : Int) = ((c.toNat - 48 : Nat) : Int) := w_i64 (by omega) (by omega)
        have t3 : IntKind.i64.wrap (((w'.length + 1 : Nat) : Int) - 1) = ((w'.length : Nat) : Int) := by rw [w_i64 (by omega) (by rw [List.length_cons] at h3; omega)]; omega
        have t4 : IntKind.i64.wrap (((w'.length : Nat) : Int) - (e : Int)) = ((l.length : Nat) : Int) := by rw [List.length_cons] at hln h3; rw [w_i64 (by omega) (by omega)]; omega
        have hu := hund_v l.length (by rw [List.length_cons] at hln h3; omega)
        have hP : 100 * 10 ^ l.length ≤ 10000 := by
          have : l.length ≤ 2 := by rw [List.length_cons] at hln h3; omega
          have := Nat.pow_le_pow_right (n := 10) (by decide) this
          omega
        obtain ⟨p, hp9⟩ : ∃ p, 100 * 10 ^ l.length = p := ⟨_, rfl⟩
        have hm : (c.toNat - 48) * p ≤ 9 * 10000 := Nat.mul_le_mul (by omega) (by omega)
        rw [hp9] at hu
        have t5 : IntKind.i64.wrap (((c.toNat - 48 : Nat) : Int) * (p : Int)) = (((c.toNat - 48) * p : Nat) : Int) := by rw [← Int.natCast_mul, w_i64 (by omega) (by omega)]
        have hel : e ≤ 3 := by omega
        have t6 : IntKind.i64.wrap ((v : Int) + (((c.toNat - 48) * p : Nat) : Int)) = ((v + (c.toNat - 48) * p : Nat) : Int) := by rw [w_i64 (by omega) (by omega)]; omega
        refine LoopA.intro (by kernel_rfl) ?_
        intro ν fr; have nuE := fr.nu
        simp (maxDischargeDepth := 16) only [evN, ↓evP, simprocAttr, forall_const, nuE, fr.2, vbQi, fDigit_v, fInWord_v, aDig_v, aftV_v, fracV_v, frn_v, fallD_v, hund_v, hasS_v, cutL_v, cutS_v, idxP_v, cutI_v, cutV_v, bs_size, hlt, li, hb, we, t1, t2, t3, t4, t5, t6, hu]
        have hi9 : v + (c.toNat - 48) * p + 100 * decV l 0 = 0 + 100 * decV (c0 :: w') 0 := by
          rw [decV_one, Nat.mul_add] at hinv
          rw [← hp9, ← hinv, Nat.mul_left_comm]
          omega
        exact LoopA.weak (ih (e + 1) (v + (c.toNat - 48) * p) (by omega) (by rw [Nat.add_mul]; omega) hl' hi9) (by simp only [subE, get_cons, Nat.reduceEqDiff, ↓reduceIte, reduceCtorEq, Nat.reduceAdd, and_self, and_true]) (SubA.refl _)
    | some g =>
      simp only [Option.getD_some, Option.isSome_some] at cv af hfl
      simp only [frB, Bool.and_eq_true, decide_eq_true_eq, Bool.not_eq_true', decide_eq_false_iff_not] at hft
      obtain ⟨hg2, hga, hgl⟩ := hft
      rw [hga] at af
      have h2' : ((2 : Int) < (g.length : Int)) = False := eq_false (by omega)
      have hgl0 : 0 < g.length := by cases g with | nil => cases hga | cons x y => simp
      have ws : IntKind.i64.wrap ((g.length : Int) - 1) = ((g.length - 1 : Nat) : Int) := by rw [w_i64 (by omega) (by omega)]; omega
      have lix : (((g.length - 1 : Nat) : Int) < 0) = False := eq_false (by omega)
      obtain ⟨z, hz1⟩ : ∃ z, g.getLast? = some z := ⟨_, List.getLast?_eq_some_getLast (List.length_pos_iff.1 hgl0)⟩
      have hix : (bs g).data[g.length - 1]? = some z := by rw [← Array.getElem?_toList, bs_data, ← List.getLast?_eq_getElem?]; exact hz1
      have hz2 : z ≠ 48 := fun e => hgl (by rw [hz1, e])
      have hz3 : ((z.toNat : Int) = 48) = False := eq_false fun h => hz2 (by rw [← UInt8.toNat_inj]; have : (48 : UInt8).toNat = 48 := rfl; omega)
      have hz4 : ((z.toNat : Int) == 48) = false := by simpa using of_eq_false hz3
      obtain ⟨d0, g', hg⟩ : ∃ d0 g', g = d0 :: g' := by cases g with | nil => cases hga | cons x y => exact ⟨x, y, rfl⟩
      have hgn : g.length = g'.length + 1 := by rw [hg]; rfl
      rw [hg] at hga
      have hd0 : digitB d0.toNat = true := by simp only [aldB, List.all_cons, Bool.and_eq_true] at hga; exact hga.2.1
      have j0 : (bs g).data[0]? = some d0 := by rw [hg]; rfl
      obtain ⟨b1, b2⟩ := dig_bounds hd0
      have s1 : IntKind.u8.wrap ((d0.toNat : Int) - 48) = ((d0.toNat - 48 : Nat) : Int) := by rw [w_u8 (by omega) (by omega)]; omega
      have s2 : IntKind.i64.wrap ((d0.toNat - 48 : Nat) : Int) = ((d0.toNat - 48 : Nat) : Int) := w_i64 (by omega) (by omega)
      have s3 : IntKind.i64.wrap (((d0.toNat - 48 : Nat) : Int) * 10) = (((d0.toNat - 48) * 10 : Nat) : Int) := by rw [w_i64 (by omega) (by omega)]; omega
      rcases Nat.eq_zero_or_pos g'.length with hg0 | hg0
      · have k2 : ((g.length : Int) = 2) = False := eq_false (by omega)
        have k2' : ((g.length : Int) == 2) = false := by simp; omega
        by_cases h3 : 3 < (c0 :: w').length
        · have h3' : ((3 : Int) < ((w'.length + 1 : Nat) : Int)) = True := eq_true (by rw [List.length_cons] at h3; omega)
          rw [if_pos h3]
          simp (maxDischargeDepth := 16) only [evN, ↓evP, simprocAttr, forall_const, nuE, fr.2, vbQi, fDigit_v, fInWord_v, aDig_v, aftV_v, fracV_v, frn_v, fallD_v, hund_v, hasS_v, cutL_v, cutS_v, idxP_v, cutI_v, cutV_v, ne0, cs, cv, aw, bs_size, hgx, i0, e48, e48', h48, h2', af, ws, hix, lix, hz3, hz4, j0, s1, s2, s3, k2, k2', h3']
        have h3' : ((3 : Int) < ((w'.length + 1 : Nat) : Int)) = False := eq_false (by rw [List.length_cons] at h3; omega)
        rw [if_neg h3]
        simp (maxDischargeDepth := 16) only [evN, ↓evP, simprocAttr, forall_const, nuE, fr.2, vbQi, fDigit_v, fInWord_v, aDig_v, aftV_v, fracV_v, frn_v, fallD_v, hund_v, hasS_v, cutL_v, cutS_v, idxP_v, cutI_v, cutV_v, ne0, cs, cv, aw, bs_size, hgx, i0, e48, e48', h48, h2', af, ws, hix, lix, hz3, hz4, j0, s1, s2, s3, k2, k2', h3']
        have hv0 : frN (some g) = ((d0.toNat - 48) * 10) := by rw [hg]; have : g' = [] := List.eq_nil_of_length_eq_zero hg0; rw [this]; simp [frN, valD, decV]
        clear nuE fr
        obtain ⟨e, v, he, hv, hle, hvl, hinv⟩ : ∃ (e v : Nat), e = 0 ∧ v = ((d0.toNat - 48) * 10) ∧ e ≤ (c0 :: w').length ∧ v ≤ 100 + e * 90000 ∧ v + 100 * decV ((c0 :: w').drop e) 0 = ((d0.toNat - 48) * 10) + 100 * decV (c0 :: w') 0 := ⟨0, ((d0.toNat - 48) * 10), rfl, rfl, by omega, by omega, rfl⟩
        rw [show (75, some (Value.int .i64 0)) = (75, some (Value.int .i64 (e : Int))) by rw [he]; rfl, ← hv]
        rw [hv0]
        clear he hv hv0
        generalize hl : (c0 :: w').drop e = l at hinv
        induction l generalizing e v with
        | nil =>
          have hn : e = (c0 :: w').length := by have := congrArg List.length hl; simp only [List.length_drop, List.length_nil, List.length_cons] at this hle ⊢; omega
          have hlt : ((e : Int) < ((w'.length + 1 : Nat) : Int)) = False := eq_false (by rw [hn, List.length_cons]; omega)
          have hve : v = valD (c0 :: w') * 100 + ((d0.toNat - 48) * 10) := by unfold valD; simp only [decV] at hinv ⊢; omega
          refine LoopA.intro (by kernel_rfl) ?_
          intro ν fr; have nuE := fr.nu
          by_cases hbig : 10000 < valD (c0 :: w') * 100 + ((d0.toNat - 48) * 10)
          · have hb' : ((10000 : Int) < (v : Int)) = True := eq_true (by omega)
            rw [if_pos hbig]
            simp (maxDischargeDepth := 16) only [evN, ↓evP, simprocAttr, forall_const, nuE, fr.2, vbQi, fDigit_v, fInWord_v, aDig_v, aftV_v, fracV_v, frn_v, fallD_v, hund_v, hasS_v, cutL_v, cutS_v, idxP_v, cutI_v, cutV_v, hlt, hb']
          · have hb' : ((10000 : Int) < (v : Int)) = False := eq_false (by omega)
            rw [if_neg hbig]
            simp (maxDischargeDepth := 16) only [evN, ↓evP, simprocAttr, forall_const, nuE, fr.2, vbQi, fDigit_v, fInWord_v, aDig_v, aftV_v, fracV_v, frn_v, fallD_v, hund_v, hasS_v, cutL_v, cutS_v, idxP_v, cutI_v, cutV_v, hlt, hb']
            rw [hve]; try rfl
        | cons c l ih =>
          have hln : e + (l.length + 1) = (c0 :: w').length := by have := congrArg List.length hl; simp only [List.length_drop, List.length_cons] at this ⊢; omega
          have hcd : digitB c.toNat = true := List.all_eq_true.1 had c (List.mem_of_mem_drop (by rw [hl]; exact List.mem_cons_self ..))
          obtain ⟨b5, b6⟩ := dig_bounds hcd
          have hlt : ((e : Int) < ((w'.length + 1 : Nat) : Int)) = True := eq_true (by rw [List.length_cons] at hln; omega)
          have li : ((e : Int) < 0) = False := eq_false (by omega)
          have hb : (bs (c0 :: w')).data[e]? = some c := by rw [← Array.getElem?_toList, bs_data, ← List.head?_drop, hl]; rfl
          have hl' : (c0 :: w').drop (e + 1) = l := by rw [← List.drop_drop, hl]; rfl
          have we : IntKind.i64.wrap ((e : Int) + 1) = ((e + 1 : Nat) : Int) := by rw [w_i64 (by omega) (by omega)]; omega
          have t1 : IntKind.u8.wrap ((c.toNat : Int) - 48) = ((c.toNat - 48 : Nat) : Int) := by rw [w_u8 (by omega) (by omega)]; omega
          have t2 : IntKind.i64.wrap ((c.toNat - 48 : Nat) : Int) = ((c.toNat - 48 : Nat) : Int) := w_i64 (by omega) (by omega)
          have t3 : IntKind.i64.wrap (((w'.length + 1 : Nat) : Int) - 1) = ((w'.length : Nat) : Int) := by rw [w_i64 (by omega) (by rw [List.length_cons] at h3; omega)]; omega
          have t4 : IntKind.i64.wrap (((w'.length : Nat) : Int) - (e : Int)) = ((l.length : Nat) : Int) := by rw [List.length_cons] at hln h3; rw [w_i64 (by omega) (by omega)]; omega
          have hu := hund_v l.length (by rw [List.length_cons] at hln h3; omega)
          have hP : 100 * 10 ^ l.length ≤ 10000 := by
            have : l.length ≤ 2 := by rw [List.length_cons] at hln h3; omega
            have := Nat.pow_le_pow_right (n := 10) (by decide) this
            omega
          obtain ⟨p, hp9⟩ : ∃ p, 100 * 10 ^ l.length = p := ⟨_, rfl⟩
          have hm : (c.toNat - 48) * p ≤ 9 * 10000 := Nat.mul_le_mul (by omega) (by omega)
          rw [hp9] at hu
          have t5 : IntKind.i64.wrap (((c.toNat - 48 : Nat) : Int) * (p : Int)) = (((c.toNat - 48) * p : Nat) : Int) := by rw [← Int.natCast_mul, w_i64 (by omega) (by omega)]
          have hel : e ≤ 3 := by omega
          have t6 : IntKind.i64.wrap ((v : Int) + (((c.toNat - 48) * p : Nat) : Int)) = ((v + (c.toNat - 48) * p : Nat) : Int) := by rw [w_i64 (by omega) (by omega)]; omega
          refine LoopA.intro (by kernel_rfl) ?_
          intro ν fr; have nuE := fr.nu
          simp (maxDischargeDepth := 16) only [evN, ↓evP, simprocAttr, forall_const, nuE, fr.2, vbQi, fDigit_v, fInWord_v, aDig_v, aftV_v, fracV_v, frn_v, fallD_v, hund_v, hasS_v, cutL_v, cutS_v, idxP_v, cutI_v, cutV_v, bs_size, hlt, li, hb, we, t1, t2, t3, t4, t5, t6, hu]
          have hi9 : v + (c.toNat - 48) * p + 100 * decV l 0 = ((d0.toNat - 48) * 10) + 100 * decV (c0 :: w') 0 := by
            rw [decV_one, Nat.mul_add] at hinv
            rw [← hp9, ← hinv, Nat.mul_left_comm]
            omega
          exact LoopA.weak (ih (e + 1) (v + (c.toNat - 48) * p) (by omega) (by rw [Nat.add_mul]; omega) hl' hi9) (by simp only [subE, get_cons, Nat.reduceEqDiff, ↓reduceIte, reduceCtorEq, Nat.reduceAdd, and_self, and_true]) (SubA.refl _)
      · obtain ⟨d1, hg1⟩ : ∃ d1, g' = [d1] := List.length_eq_one_iff.1 (by omega)
        rw [hg1] at hga hg
        have k2 : ((g.length : Int) = 2) = True := eq_true (by omega)
        have k2' : ((g.length : Int) == 2) = true := by simp; omega
        have hd1 : digitB d1.toNat = true := by simp only [aldB, List.all_cons, Bool.and_eq_true] at hga; exact hga.2.2.1
        have j1 : (bs g).data[1]? = some d1 := by rw [hg, ← Array.getElem?_toList, bs_data]; rfl
        obtain ⟨b3, b4⟩ := dig_bounds hd1
        have s4 : IntKind.u8.wrap ((d1.toNat : Int) - 48) = ((d1.toNat - 48 : Nat) : Int) := by rw [w_u8 (by omega) (by omega)]; omega
        have s5 : IntKind.i64.wrap ((d1.toNat - 48 : Nat) : Int) = ((d1.toNat - 48 : Nat) : Int) := w_i64 (by omega) (by omega)
        have s6 : IntKind.i64.wrap ((((d0.toNat - 48) * 10 : Nat) : Int) + ((d1.toNat - 48 : Nat) : Int)) = (((d0.toNat - 48) * 10 + (d1.toNat - 48) : Nat) : Int) := by rw [w_i64 (by omega) (by omega)]; omega
        by_cases h3 : 3 < (c0 :: w').length
        · have h3' : ((3 : Int) < ((w'.length + 1 : Nat) : Int)) = True := eq_true (by rw [List.length_cons] at h3; omega)
          rw [if_pos h3]
          simp (maxDischargeDepth := 16) only [evN, ↓evP, simprocAttr, forall_const, nuE, fr.2, vbQi, fDigit_v, fInWord_v, aDig_v, aftV_v, fracV_v, frn_v, fallD_v, hund_v, hasS_v, cutL_v, cutS_v, idxP_v, cutI_v, cutV_v, ne0, cs, cv, aw, bs_size, hgx, i0, e48, e48', h48, h2', af, ws, hix, lix, hz3, hz4, j0, j1, s1, s2, s3, s4, s5, s6, k2, k2', h3']
        have h3' : ((3 : Int) < ((w'.length + 1 : Nat) : Int)) = False := eq_false (by rw [List.length_cons] at h3; omega)
        rw [if_neg h3]
        simp (maxDischargeDepth := 16) only [evN, ↓evP, simprocAttr, forall_const, nuE, fr.2, vbQi, fDigit_v, fInWord_v, aDig_v, aftV_v, fracV_v, frn_v, fallD_v, hund_v, hasS_v, cutL_v, cutS_v, idxP_v, cutI_v, cutV_v, ne0, cs, cv, aw, bs_size, hgx, i0, e48, e48', h48, h2', af, ws, hix, lix, hz3, hz4, j0, j1, s1, s2, s3, s4, s5, s6, k2, k2', h3']
        have hv0 : frN (some g) = ((d0.toNat - 48) * 10 + (d1.toNat - 48)) := by rw [hg]; simp [frN, valD, decV]; omega
        clear nuE fr
        obtain ⟨e, v, he, hv, hle, hvl, hinv⟩ : ∃ (e v : Nat), e = 0 ∧ v = ((d0.toNat - 48) * 10 + (d1.toNat - 48)) ∧ e ≤ (c0 :: w').length ∧ v ≤ 100 + e * 90000 ∧ v + 100 * decV ((c0 :: w').drop e) 0 = ((d0.toNat - 48) * 10 + (d1.toNat - 48)) + 100 * decV (c0 :: w') 0 := ⟨0, ((d0.toNat - 48) * 10 + (d1.toNat - 48)), rfl, rfl, by omega, by omega, rfl⟩
        rw [show (75, some (Value.int .i64 0)) = (75, some (Value.int .i64 (e : Int))) by rw [he]; rfl, ← hv]
        rw [hv0]
        clear he hv hv0
        generalize hl : (c0 :: w').drop e = l at hinv
        induction l generalizing e v with
        | nil =>
          have hn : e = (c0 :: w').length := by have := congrArg List.length hl; simp only [List.length_drop, List.length_nil, List.length_cons] at this hle ⊢; omega
          have hlt : ((e : Int) < ((w'.length + 1 : Nat) : Int)) = False := eq_false (by rw [hn, List.length_cons]; omega)
          have hve : v = valD (c0 :: w') * 100 + ((d0.toNat - 48) * 10 + (d1.toNat - 48)) := by unfold valD; simp only [decV] at hinv ⊢; omega
          refine LoopA.intro (by kernel_rfl) ?_
          intro ν fr; have nuE := fr.nu
          by_cases hbig : 10000 < valD (c0 :: w') * 100 + ((d0.toNat - 48) * 10 + (d1.toNat - 48))
          · have hb' : ((10000 : Int) < (v : Int)) = True := eq_true (by omega)
            rw [if_pos hbig]
            simp (maxDischargeDepth := 16) only [evN, ↓evP, simprocAttr, forall_const, nuE, fr.2, vbQi, fDigit_v, fInWord_v, aDig_v, aftV_v, fracV_v, frn_v, fallD_v, hund_v, hasS_v, cutL_v, cutS_v, idxP_v, cutI_v, cutV_v, hlt, hb']
          · have hb' : ((10000 : Int) < (v : Int)) = False := eq_false (by omega)
            rw [if_neg hbig]
            simp (maxDischargeDepth := 16) only [evN, ↓evP, simprocAttr, forall_const, nuE, fr.2, vbQi, fDigit_v, fInWord_v, aDig_v, aftV_v, fracV_v, frn_v, fallD_v, hund_v, hasS_v, cutL_v, cutS_v, idxP_v, cutI_v, cutV_v, hlt, hb']
            rw [hve]; try rfl
        | cons c l ih =>
          have hln : e + (l.length + 1) = (c0 :: w').length := by have := congrArg List.length hl; simp only [List.length_drop, List.length_cons] at this ⊢; omega
          have hcd : digitB c.toNat = true := List.all_eq_true.1 had c (List.mem_of_mem_drop (by rw [hl]; exact List.mem_cons_self ..))
          obtain ⟨b5, b6⟩ := dig_bounds hcd
          have hlt : ((e : Int) < ((w'.length + 1 : Nat) : Int)) = True := eq_true (by rw [List.length_cons] at hln; omega)
          have li : ((e : Int) < 0) = False := eq_false (by omega)
          have hb : (bs (c0 :: w')).data[e]? = some c := by rw [← Array.getElem?_toList, bs_data, ← List.head?_drop, hl]; rfl
          have hl' : (c0 :: w').drop (e + 1) = l := by rw [← List.drop_drop, hl]; rfl
          have we : IntKind.i64.wrap ((e : Int) + 1) = ((e + 1 : Nat) : Int) := by rw [w_i64 (by omega) (by omega)]; omega
          have t1 : IntKind.u8.wrap ((c.toNat : Int) - 48) = ((c.toNat - 48 : Nat) : Int) := by rw [w_u8 (by omega) (by omega)]; omega
          have t2 : IntKind.i64.wrap ((c.toNat - 48 : Nat) : Int) = ((c.toNat - 48 : Nat) : Int) := w_i64 (by omega) (by omega)
          have t3 : IntKind.i64.wrap (((w'.length + 1 : Nat) : Int) - 1) = ((w'.length : Nat) : Int) := by rw [w_i64 (by omega) (by rw [List.length_cons] at h3; omega)]; omega
          have t4 : IntKind.i64.wrap (((w'.length : Nat) : Int) - (e : Int)) = ((l.length : Nat) : Int) := by rw [List.length_cons] at hln h3; rw [w_i64 (by omega) (by omega)]; omega
          have hu := hund_v l.length (by rw [List.length_cons] at hln h3; omega)
          have hP : 100 * 10 ^ l.length ≤ 10000 := by
            have : l.length ≤ 2 := by rw [List.length_cons] at hln h3; omega
            have := Nat.pow_le_pow_right (n := 10) (by decide) this
            omega
          obtain ⟨p, hp9⟩ : ∃ p, 100 * 10 ^ l.length = p := ⟨_, rfl⟩
          have hm : (c.toNat - 48) * p ≤ 9 * 10000 := Nat.mul_le_mul (by omega) (by omega)
          rw [hp9] at hu
          have t5 : IntKind.i64.wrap (((c.toNat - 48 : Nat) : Int) * (p : Int)) = (((c.toNat - 48) * p : Nat) : Int) := by rw [← Int.natCast_mul, w_i64 (by omega) (by omega)]
          have hel : e ≤ 3 := by omega
          have t6 : IntKind.i64.wrap ((v : Int) + (((c.toNat - 48) * p : Nat) : Int)) = ((v + (c.toNat - 48) * p : Nat) : Int) := by rw [w_i64 (by omega) (by omega)]; omega
          refine LoopA.intro (by kernel_rfl) ?_
          intro ν fr; have nuE := fr.nu
          simp (maxDischargeDepth := 16) only [evN, ↓evP, simprocAttr, forall_const, nuE, fr.2, vbQi, fDigit_v, fInWord_v, aDig_v, aftV_v, fracV_v, frn_v, fallD_v, hund_v, hasS_v, cutL_v, cutS_v, idxP_v, cutI_v, cutV_v, bs_size, hlt, li, hb, we, t1, t2, t3, t4, t5, t6, hu]
          have hi9 : v + (c.toNat - 48) * p + 100 * decV l 0 = ((d0.toNat - 48) * 10 + (d1.toNat - 48)) + 100 * decV (c0 :: w') 0 := by
            rw [decV_one, Nat.mul_add] at hinv
            rw [← hp9, ← hinv, Nat.mul_left_comm]
            omega
          exact LoopA.weak (ih (e + 1) (v + (c.toNat - 48) * p) (by omega) (by rw [Nat.add_mul]; omega) hl' hi9) (by simp only [subE, get_cons, Nat.reduceEqDiff, ↓reduceIte, reduceCtorEq, Nat.reduceAdd, and_self, and_true]) (SubA.refl _)
  · have hgx : ((1 : Int) < ((w'.length + 1 : Nat) : Int)) = True := eq_true (by omega)
    have h48 : (c0 = 48) = False := eq_false fun e => hz ⟨hw0, e⟩
    by_cases hf : frB f = false
    · have hr : ppC (c0 :: w') f = (0, 2) := by unfold ppC; rw [if_neg (by rw [hp]; simp), if_pos hf]
      rw [hr]
      cases f with
      | none => cases hf
      | some g =>
        simp only [Option.getD_some, Option.isSome_some] at cv af hfl
        by_cases h2 : 2 < g.length
        · have h2' : ((2 : Int) < (g.length : Int)) = True := eq_true (by omega)
          simp (maxDischargeDepth := 16) only [evN, ↓evP, simprocAttr, forall_const, nuE, fr.2, vbQi, fDigit_v, fInWord_v, aDig_v, aftV_v, fracV_v, frn_v, fallD_v, hund_v, hasS_v, cutL_v, cutS_v, idxP_v, cutI_v, cutV_v, ne0, cs, cv, aw, bs_size, hgx, i0, e48, e48', h48, h2']
        have h2' : ((2 : Int) < (g.length : Int)) = False := eq_false (by omega)
        cases hg : aldB g with
        | false =>
          rw [hg] at af
          simp (maxDischargeDepth := 16) only [evN, ↓evP, simprocAttr, forall_const, nuE, fr.2, vbQi, fDigit_v, fInWord_v, aDig_v, aftV_v, fracV_v, frn_v, fallD_v, hund_v, hasS_v, cutL_v, cutS_v, idxP_v, cutI_v, cutV_v, ne0, cs, cv, aw, bs_size, hgx, i0, e48, e48', h48, h2', af]
        | true =>
          rw [hg] at af
          have hlast : g.getLast? = some 48 := by
            simp only [frB, hg, Bool.true_and, Bool.and_eq_false_iff, decide_eq_false_iff_not, Bool.not_eq_false', decide_eq_true_eq] at hf
            exact hf.resolve_left fun h => h (by omega)
          have hgl : 0 < g.length := by cases g with | nil => cases hg | cons x y => simp
          have ws : IntKind.i64.wrap ((g.length : Int) - 1) = ((g.length - 1 : Nat) : Int) := by rw [w_i64 (by omega) (by omega)]; omega
          have hix : (bs g).data[g.length - 1]? = some 48 := by rw [← Array.getElem?_toList, bs_data, ← List.getLast?_eq_getElem?]; exact hlast
          have lix : (((g.length - 1 : Nat) : Int) < 0) = False := eq_false (by omega)
          simp (maxDischargeDepth := 16) only [evN, ↓evP, simprocAttr, forall_const, nuE, fr.2, vbQi, fDigit_v, fInWord_v, aDig_v, aftV_v, fracV_v, frn_v, fallD_v, hund_v, hasS_v, cutL_v, cutS_v, idxP_v, cutI_v, cutV_v, ne0, cs, cv, aw, bs_size, hgx, i0, e48, e48', h48, h2', af, ws, hix, lix]
          first | done | rfl | trace_state
    have hft : frB f = true := by simpa using hf
    have hr : ppC (c0 :: w') f = if 3 < (c0 :: w').length then ((0 : Int), (4 : Int)) else if 10000 < valD (c0 :: w') * 100 + frN f then (0, 4) else (((valD (c0 :: w') * 100 + frN f : Nat) : Int), 0) := by unfold ppC; rw [if_neg (by rw [hp]; simp), if_neg hf]
    rw [hr]
    clear hr hf
    cases f with
    | none =>
      simp only [Option.getD_none, Option.isSome_none] at cv
      by_cases h3 : 3 < (c0 :: w').length
      · have h3' : ((3 : Int) < ((w'.length + 1 : Nat) : Int)) = True := eq_true (by rw [List.length_cons] at h3; omega)
        rw [if_pos h3]
        simp (maxDischargeDepth := 16) only [evN, ↓evP, simprocAttr, forall_const, nuE, fr.2, vbQi, fDigit_v, fInWord_v, aDig_v, aftV_v, fracV_v, frn_v, fallD_v, hund_v, hasS_v, cutL_v, cutS_v, idxP_v, cutI_v, cutV_v, ne0, cs, cv, aw, bs_size, hgx, i0, e48, e48', h48, Bool.false_eq_true, h3']
      have h3' : ((3 : Int) < ((w'.length + 1 : Nat) : Int)) = False := eq_false (by rw [List.length_cons] at h3; omega)
      rw [if_neg h3]
      simp (maxDischargeDepth := 16) only [evN, ↓evP, simprocAttr, forall_const, nuE, fr.2, vbQi, fDigit_v, fInWord_v, aDig_v, aftV_v, fracV_v, frn_v, fallD_v, hund_v, hasS_v, cutL_v, cutS_v, idxP_v, cutI_v, cutV_v, ne0, cs, cv, aw, bs_size, hgx, i0, e48, e48', h48, Bool.false_eq_true, h3']
      have hv0 : frN none = 0 := by rfl
      clear nuE fr
      obtain ⟨e, v, he, hv, hle, hvl, hinv⟩ : ∃ (e v : Nat), e = 0 ∧ v = 0 ∧ e ≤ (c0 :: w').length ∧ v ≤ 100 + e * 90000 ∧ v + 100 * decV ((c0 :: w').drop e) 0 = 0 + 100 * decV (c0 :: w') 0 := ⟨0, 0, rfl, rfl, by omega, by omega, rfl⟩
      rw [show (75, some (Value.int .i64 0)) = (75, some (Value.int .i64 (e : Int))) by rw [he]; rfl, show (9, some (Value.int .i64 0)) = (9, some (Value.int .i64 (v : Int))) by rw [hv]; rfl]
      rw [hv0]
      clear he hv hv0
      generalize hl : (c0 :: w').drop e = l at hinv
      induction l generalizing e v with
      | nil =>
        have hn : e = (c0 :: w').length := by have := congrArg List.length hl; simp only [List.length_drop, List.length_nil, List.length_cons] at this hle ⊢; omega
        have hlt : ((e : Int) < ((w'.length + 1 : Nat) : Int)) = False := eq_false (by rw [hn, List.length_cons]; omega)
        have hve : v = valD (c0 :: w') * 100 + 0 := by unfold valD; simp only [decV] at hinv ⊢; omega
        refine LoopA.intro (by kernel_rfl) ?_
        intro ν fr; have nuE := fr.nu
        by_cases hbig : 10000 < valD (c0 :: w') * 100 + 0
        · have hb' : ((10000 : Int) < (v : Int)) = True := eq_true (by omega)
          rw [if_pos hbig]
          simp (maxDischargeDepth := 16) only [evN, ↓evP, simprocAttr, forall_const, nuE, fr.2, vbQi, fDigit_v, fInWord_v, aDig_v, aftV_v, fracV_v, frn_v, fallD_v, hund_v, hasS_v, cutL_v, cutS_v, idxP_v, cutI_v, cutV_v, hlt, hb']
        · have hb' : ((10000 : Int) < (v : Int)) = False := eq_false (by omega)
          rw [if_neg hbig]
          simp (maxDischargeDepth := 16) only [evN, ↓evP, simprocAttr, forall_const, nuE, fr.2, vbQi, fDigit_v, fInWord_v, aDig_v, aftV_v, fracV_v, frn_v, fallD_v, hund_v, hasS_v, cutL_v, cutS_v, idxP_v, cutI_v, cutV_v, hlt, hb']
          rw [hve]; try rfl
      | cons c l ih =>
        have hln : e + (l.length + 1) = (c0 :: w').length := by have := congrArg List.length hl; simp only [List.length_drop, List.length_cons] at this ⊢; omega
        have hcd : digitB c.toNat = true := List.all_eq_true.1 had c (List.mem_of_mem_drop (by rw [hl]; exact List.mem_cons_self ..))
        obtain ⟨b5, b6⟩ := dig_bounds hcd
        have hlt : ((e : Int) < ((w'.length + 1 : Nat) : Int)) = True := eq_true (by rw [List.length_cons] at hln; omega)
        have li : ((e : Int) < 0) = False := eq_false (by omega)
        have hb : (bs (c0 :: w')).data[e]? = some c := by rw [← Array.getElem?_toList, bs_data, ← List.head?_drop, hl]; rfl
        have hl' : (c0 :: w').drop (e + 1) = l := by rw [← List.drop_drop, hl]; rfl
        have we : IntKind.i64.wrap ((e : Int) + 1) = ((e + 1 : Nat) : Int) := by rw [w_i64 (by omega) (by omega)]; omega
        have t1 : IntKind.u8.wrap ((c.toNat : Int) - 48) = ((c.toNat - 48 : Nat) : Int) := by rw [w_u8 (by omega) (by omega)]; omega
        have t2 : IntKind.i64.wrap ((c.toNat - 48 : Nat) : Int) = ((c.toNat - 48 : Nat) : Int) := w_i64 (by omega) (by omega)
        have t3 : IntKind.i64.wrap (((w'.length + 1 : Nat) : Int) - 1) = ((w'.length : Nat) : Int) := by rw [w_i64 (by omega) (by rw [List.length_cons] at h3; omega)]; omega
        have t4 : IntKind.i64.wrap (((w'.length : Nat) : Int) - (e : Int)) = ((l.length : Nat) : Int) := by rw [List.length_cons] at hln h3; rw [w_i64 (by omega) (by omega)]; omega
        have hu := hund_v l.length (by rw [List.length_cons] at hln h3; omega)
        have hP : 100 * 10 ^ l.length ≤ 10000 := by
          have : l.length ≤ 2 := by rw [List.length_cons] at hln h3; omega
          have := Nat.pow_le_pow_right (n := 10) (by decide) this
          omega
        obtain ⟨p, hp9⟩ : ∃ p, 100 * 10 ^ l.length = p := ⟨_, rfl⟩
        have hm : (c.toNat - 48) * p ≤ 9 * 10000 := Nat.mul_le_mul (by omega) (by omega)
        rw [hp9] at hu
        have t5 : IntKind.i64.wrap (((c.toNat - 48 : Nat) : Int) * (p : Int)) = (((c.toNat - 48) * p : Nat) : Int) := by rw [← Int.natCast_mul, w_i64 (by omega) (by omega)]
        have hel : e ≤ 3 := by omega
        have t6 : IntKind.i64.wrap ((v : Int) + (((c.toNat - 48) * p : Nat) : Int)) = ((v + (c.toNat - 48) * p : Nat) : Int) := by rw [w_i64 (by omega) (by omega)]; omega
        refine LoopA.intro (by kernel_rfl) ?_
        intro ν fr; have nuE := fr.nu
        simp (maxDischargeDepth := 16) only [evN, ↓evP, simprocAttr, forall_const, nuE, fr.2, vbQi, fDigit_v, fInWord_v, aDig_v, aftV_v, fracV_v, frn_v, fallD_v, hund_v, hasS_v, cutL_v, cutS_v, idxP_v, cutI_v, cutV_v, bs_size, hlt, li, hb, we, t1, t2, t3, t4, t5, t6, hu]
        have hi9 : v + (c.toNat - 48) * p + 100 * decV l 0 = 0 + 100 * decV (c0 :: w') 0 := by
          rw [decV_one, Nat.mul_add] at hinv
          rw [← hp9, ← hinv, Nat.mul_left_comm]
          omega
        exact LoopA.weak (ih (e + 1) (v + (c.toNat - 48) * p) (by omega) (by rw [Nat.add_mul]; omega) hl' hi9) (by simp only [subE, get_cons, Nat.reduceEqDiff, ↓reduceIte, reduceCtorEq, Nat.reduceAdd, and_self, and_true]) (SubA.refl _)
    | some g =>
      simp only [Option.getD_some, Option.isSome_some] at cv af hfl
      simp only [frB, Bool.and_eq_true, decide_eq_true_eq, Bool.not_eq_true', decide_eq_false_iff_not] at hft
      obtain ⟨hg2, hga, hgl⟩ := hft
      rw [hga] at af
      have h2' : ((2 : Int) < (g.length : Int)) = False := eq_false (by omega)
      have hgl0 : 0 < g.length := by cases g with | nil => cases hga | cons x y => simp
      have ws : IntKind.i64.wrap ((g.length : Int) - 1) = ((g.length - 1 : Nat) : Int) := by rw [w_i64 (by omega) (by omega)]; omega
      have lix : (((g.length - 1 : Nat) : Int) < 0) = False := eq_false (by omega)
      obtain ⟨z, hz1⟩ : ∃ z, g.getLast? = some z := ⟨_, List.getLast?_eq_some_getLast (List.length_pos_iff.1 hgl0)⟩
      have hix : (bs g).data[g.length - 1]? = some z := by rw [← Array.getElem?_toList, bs_data, ← List.getLast?_eq_getElem?]; exact hz1
      have hz2 : z ≠ 48 := fun e => hgl (by rw [hz1, e])
      have hz3 : ((z.toNat : Int) = 48) = False := eq_false fun h => hz2 (by rw [← UInt8.toNat_inj]; have : (48 : UInt8).toNat = 48 := rfl; omega)
      have hz4 : ((z.toNat : Int) == 48) = false := by simpa using of_eq_false hz3
      obtain ⟨d0, g', hg⟩ : ∃ d0 g', g = d0 :: g' := by cases g with | nil => cases hga | cons x y => exact ⟨x, y, rfl⟩
      have hgn : g.length = g'.length + 1 := by rw [hg]; rfl
      rw [hg] at hga
      have hd0 : digitB d0.toNat = true := by simp only [aldB, List.all_cons, Bool.and_eq_true] at hga; exact hga.2.1
      have j0 : (bs g).data[0]? = some d0 := by rw [hg]; rfl
      obtain ⟨b1, b2⟩ := dig_bounds hd0
      have s1 : IntKind.u8.wrap ((d0.toNat : Int) - 48) = ((d0.toNat - 48 : Nat) : Int) := by rw [w_u8 (by omega) (by omega)]; omega
      have s2 : IntKind.i64.wrap ((d0.toNat - 48 : Nat) : Int) = ((d0.toNat - 48 : Nat) : Int) := w_i64 (by omega) (by omega)
      have s3 : IntKind.i64.wrap (((d0.toNat - 48 : Nat) : Int) * 10) = (((d0.toNat - 48) * 10 : Nat) : Int) := by rw [w_i64 (by omega) (by omega)]; omega
      rcases Nat.eq_zero_or_pos g'.length with hg0 | hg0
      · have k2 : ((g.length : Int) = 2) = False := eq_false (by omega)
        have k2' : ((g.length : Int) == 2) = false := by simp; omega
        by_cases h3 : 3 < (c0 :: w').length
        · have h3' : ((3 : Int) < ((w'.length + 1 : Nat) : Int)) = True := eq_true (by rw [List.length_cons] at h3; omega)
          rw [if_pos h3]
          simp (maxDischargeDepth := 16) only [evN, ↓evP, simprocAttr, forall_const, nuE, fr.2, vbQi, fDigit_v, fInWord_v, aDig_v, aftV_v, fracV_v, frn_v, fallD_v, hund_v, hasS_v, cutL_v, cutS_v, idxP_v, cutI_v, cutV_v, ne0, cs, cv, aw, bs_size, hgx, i0, e48, e48', h48, h2', af, ws, hix, lix, hz3, hz4, j0, s1, s2, s3, k2, k2', h3']
        have h3' : ((3 : Int) < ((w'.length + 1 : Nat) : Int)) = False := eq_false (by rw [List.length_cons] at h3; omega)
        rw [if_neg h3]
        simp (maxDischargeDepth := 16) only [evN, ↓evP, simprocAttr, forall_const, nuE, fr.2, vbQi, fDigit_v, fInWord_v, aDig_v, aftV_v, fracV_v, frn_v, fallD_v, hund_v, hasS_v, cutL_v, cutS_v, idxP_v, cutI_v, cutV_v, ne0, cs, cv, aw, bs_size, hgx, i0, e48, e48', h48, h2', af, ws, hix, lix, hz3, hz4, j0, s1, s2, s3, k2, k2', h3']
        have hv0 : frN (some g) = ((d0.toNat - 48) * 10) := by rw [hg]; have : g' = [] := List.eq_nil_of_length_eq_zero hg0; rw [this]; simp [frN, valD, decV]
        clear nuE fr
        obtain ⟨e, v, he, hv, hle, hvl, hinv⟩ : ∃ (e v : Nat), e = 0 ∧ v = ((d0.toNat - 48) * 10) ∧ e ≤ (c0 :: w').length ∧ v ≤ 100 + e * 90000 ∧ v + 100 * decV ((c0 :: w').drop e) 0 = ((d0.toNat - 48) * 10) + 100 * decV (c0 :: w') 0 := ⟨0, ((d0.toNat - 48) * 10), rfl, rfl, by omega, by omega, rfl⟩
        rw [show (75, some (Value.int .i64 0)) = (75, some (Value.int .i64 (e : Int))) by rw [he]; rfl, ← hv]
        rw [hv0]
        clear he hv hv0
        generalize hl : (c0 :: w').drop e = l at hinv
        induction l generalizing e v with
        | nil =>
          have hn : e = (c0 :: w').length := by have := congrArg List.length hl; simp only [List.length_drop, List.length_nil, List.length_cons] at this hle ⊢; omega
          have hlt : ((e : Int) < ((w'.length + 1 : Nat) : Int)) = False := eq_false (by rw [hn, List.length_cons]; omega)
          have hve : v = valD (c0 :: w') * 100 + ((d0.toNat - 48) * 10) := by unfold valD; simp only [decV] at hinv ⊢; omega
          refine LoopA.intro (by kernel_rfl) ?_
          intro ν fr; have nuE := fr.nu
          by_cases hbig : 10000 < valD (c0 :: w') * 100 + ((d0.toNat - 48) * 10)
          · have hb' : ((10000 : Int) < (v : Int)) = True := eq_true (by omega)
            rw [if_pos hbig]
            simp (maxDischargeDepth := 16) only [evN, ↓evP, simprocAttr, forall_const, nuE, fr.2, vbQi, fDigit_v, fInWord_v, aDig_v, aftV_v, fracV_v, frn_v, fallD_v, hund_v, hasS_v, cutL_v, cutS_v, idxP_v, cutI_v, cutV_v, hlt, hb']
          · have hb' : ((10000 : Int) < (v : Int)) = False := eq_false (by omega)
            rw [if_neg hbig]
            simp (maxDischargeDepth := 16) only [evN, ↓evP, simprocAttr, forall_const, nuE, fr.2, vbQi, fDigit_v, fInWord_v, aDig_v, aftV_v, fracV_v, frn_v, fallD_v, hund_v, hasS_v, cutL_v, cutS_v, idxP_v, cutI_v, cutV_v, hlt, hb']
            rw [hve]; try rfl
        | cons c l ih =>
          have hln : e + (l.length + 1) = (c0 :: w').length := by have := congrArg List.length hl; simp only [List.length_drop, List.length_cons] at this ⊢; omega
          have hcd : digitB c.toNat = true := List.all_eq_true.1 had c (List.mem_of_mem_drop (by rw [hl]; exact List.mem_cons_self ..))
          obtain ⟨b5, b6⟩ := dig_bounds hcd
          have hlt : ((e : Int) < ((w'.length + 1 : Nat) : Int)) = True := eq_true (by rw [List.length_cons] at hln; omega)
          have li : ((e : Int) < 0) = False := eq_false (by omega)
          have hb : (bs (c0 :: w')).data[e]? = some c := by rw [← Array.getElem?_toList, bs_data, ← List.head?_drop, hl]; rfl
          have hl' : (c0 :: w').drop (e + 1) = l := by rw [← List.drop_drop, hl]; rfl
          have we : IntKind.i64.wrap ((e : Int) + 1) = ((e + 1 : Nat) : Int) := by rw [w_i64 (by omega) (by omega)]; omega
          have t1 : IntKind.u8.wrap ((c.toNat : Int) - 48) = ((c.toNat - 48 : Nat) : Int) := by rw [w_u8 (by omega) (by omega)]; omega
          have t2 : IntKind.i64.wrap ((c.toNat - 48 : Nat) : Int) = ((c.toNat - 48 : Nat) : Int) := w_i64 (by omega) (by omega)
          have t3 : IntKind.i64.wrap (((w'.length + 1 : Nat) : Int) - 1) = ((w'.length : Nat) : Int) := by rw [w_i64 (by omega) (by rw [List.length_cons] at h3; omega)]; omega
          have t4 : IntKind.i64.wrap (((w'.length : Nat) : Int) - (e : Int)) = ((l.length : Nat) : Int) := by rw [List.length_cons] at hln h3; rw [w_i64 (by omega) (by omega)]; omega
          have hu := hund_v l.length (by rw [List.length_cons] at hln h3; omega)
          have hP : 100 * 10 ^ l.length ≤ 10000 := by
            have : l.length ≤ 2 := by rw [List.length_cons] at hln h3; omega
            have := Nat.pow_le_pow_right (n := 10) (by decide) this
            omega
          obtain ⟨p, hp9⟩ : ∃ p, 100 * 10 ^ l.length = p := ⟨_, rfl⟩
          have hm : (c.toNat - 48) * p ≤ 9 * 10000 := Nat.mul_le_mul (by omega) (by omega)
          rw [hp9] at hu
          have t5 : IntKind.i64.wrap (((c.toNat - 48 : Nat) : Int) * (p : Int)) = (((c.toNat - 48) * p : Nat) : Int) := by rw [← Int.natCast_mul, w_i64 (by omega) (by omega)]
          have hel : e ≤ 3 := by omega
          have t6 : IntKind.i64.wrap ((v : Int) + (((c.toNat - 48) * p : Nat) : Int)) = ((v + (c.toNat - 48) * p : Nat) : Int) := by rw [w_i64 (by omega) (by omega)]; omega
          refine LoopA.intro (by kernel_rfl) ?_
          intro ν fr; have nuE := fr.nu
          simp (maxDischargeDepth := 16) only [evN, ↓evP, simprocAttr, forall_const, nuE, fr.2, vbQi, fDigit_v, fInWord_v, aDig_v, aftV_v, fracV_v, frn_v, fallD_v, hund_v, hasS_v, cutL_v, cutS_v, idxP_v, cutI_v, cutV_v, bs_size, hlt, li, hb, we, t1, t2, t3, t4, t5, t6, hu]
          have hi9 : v + (c.toNat - 48) * p + 100 * decV l 0 = ((d0.toNat - 48) * 10) + 100 * decV (c0 :: w') 0 := by
            rw [decV_one, Nat.mul_add] at hinv
            rw [← hp9, ← hinv, Nat.mul_left_comm]
            omega
          exact LoopA.weak (ih (e + 1) (v + (c.toNat - 48) * p) (by omega) (by rw [Nat.add_mul]; omega) hl' hi9) (by simp only [subE, get_cons, Nat.reduceEqDiff, ↓reduceIte, reduceCtorEq, Nat.reduceAdd, and_self, and_true]) (SubA.refl _)
      · obtain ⟨d1, hg1⟩ : ∃ d1, g' = [d1] := List.length_eq_one_iff.1 (by omega)
        rw [hg1] at hga hg
        have k2 : ((g.length : Int) = 2) = True := eq_true (by omega)
        have k2' : ((g.length : Int) == 2) = true := by simp; omega
        have hd1 : digitB d1.toNat = true := by simp only [aldB, List.all_cons, Bool.and_eq_true] at hga; exact hga.2.2.1
        have j1 : (bs g).data[1]? = some d1 := by rw [hg, ← Array.getElem?_toList, bs_data]; rfl
        obtain ⟨b3, b4⟩ := dig_bounds hd1
        have s4 : IntKind.u8.wrap ((d1.toNat : Int) - 48) = ((d1.toNat - 48 : Nat) : Int) := by rw [w_u8 (by omega) (by omega)]; omega
        have s5 : IntKind.i64.wrap ((d1.toNat - 48 : Nat) : Int) = ((d1.toNat - 48 : Nat) : Int) := w_i64 (by omega) (by omega)
        have s6 : IntKind.i64.wrap ((((d0.toNat - 48) * 10 : Nat) : Int) + ((d1.toNat - 48 : Nat) : Int)) = (((d0.toNat - 48) * 10 + (d1.toNat - 48) : Nat) : Int) := by rw [w_i64 (by omega) (by omega)]; omega
        by_cases h3 : 3 < (c0 :: w').length
        · have h3' : ((3 : Int) < ((w'.length + 1 : Nat) : Int)) = True := eq_true (by rw [List.length_cons] at h3; omega)
          rw [if_pos h3]
          simp (maxDischargeDepth := 16) only [evN, ↓evP, simprocAttr, forall_const, nuE, fr.2, vbQi, fDigit_v, fInWord_v, aDig_v, aftV_v, fracV_v, frn_v, fallD_v, hund_v, hasS_v, cutL_v, cutS_v, idxP_v, cutI_v, cutV_v, ne0, cs, cv, aw, bs_size, hgx, i0, e48, e48', h48, h2', af, ws, hix, lix, hz3, hz4, j0, j1, s1, s2, s3, s4, s5, s6, k2, k2', h3']
        have h3' : ((3 : Int) < ((w'.length + 1 : Nat) : Int)) = False := eq_false (by rw [List.length_cons] at h3; omega)
        rw [if_neg h3]
        simp (maxDischargeDepth := 16) only [evN, ↓evP, simprocAttr, forall_const, nuE, fr.2, vbQi, fDigit_v, fInWord_v, aDig_v, aftV_v, fracV_v, frn_v, fallD_v, hund_v, hasS_v, cutL_v, cutS_v, idxP_v, cutI_v, cutV_v, ne0, cs, cv, aw, bs_size, hgx, i0, e48, e48', h48, h2', af, ws, hix, lix, hz3, hz4, j0, j1, s1, s2, s3, s4, s5, s6, k2, k2', h3']
        have hv0 : frN (some g) = ((d0.toNat - 48) * 10 + (d1.toNat - 48)) := by rw [hg]; simp [frN, valD, decV]; omega
        clear nuE fr
        obtain ⟨e, v, he, hv, hle, hvl, hinv⟩ : ∃ (e v : Nat), e = 0 ∧ v = ((d0.toNat - 48) * 10 + (d1.toNat - 48)) ∧ e ≤ (c0 :: w').length ∧ v ≤ 100 + e * 90000 ∧ v + 100 * decV ((c0 :: w').drop e) 0 = ((d0.toNat - 48) * 10 + (d1.toNat - 48)) + 100 * decV (c0 :: w') 0 := ⟨0, ((d0.toNat - 48) * 10 + (d1.toNat - 48)), rfl, rfl, by omega, by omega, rfl⟩
        rw [show (75, some (Value.int .i64 0)) = (75, some (Value.int .i64 (e : Int))) by rw [he]; rfl, ← hv]
        rw [hv0]
        clear he hv hv0
        generalize hl : (c0 :: w').drop e = l at hinv
        induction l generalizing e v with
        | nil =>
          have hn : e = (c0 :: w').length := by have := congrArg List.length hl; simp only [List.length_drop, List.length_nil, List.length_cons] at this hle ⊢; omega
          have hlt : ((e : Int) < ((w'.length + 1 : Nat) : Int)) = False := eq_false (by rw [hn, List.length_cons]; omega)
          have hve : v = valD (c0 :: w') * 100 + ((d0.toNat - 48) * 10 + (d1.toNat - 48)) := by unfold valD; simp only [decV] at hinv ⊢; omega
          refine LoopA.intro (by kernel_rfl) ?_
          intro ν fr; have nuE := fr.nu
          by_cases hbig : 10000 < valD (c0 :: w') * 100 + ((d0.toNat - 48) * 10 + (d1.toNat - 48))
          · have hb' : ((10000 : Int) < (v : Int)) = True := eq_true (by omega)
            rw [if_pos hbig]
            simp (maxDischargeDepth := 16) only [evN, ↓evP, simprocAttr, forall_const, nuE, fr.2, vbQi, fDigit_v, fInWord_v, aDig_v, aftV_v, fracV_v, frn_v, fallD_v, hund_v, hasS_v, cutL_v, cutS_v, idxP_v, cutI_v, cutV_v, hlt, hb']
          · have hb' : ((10000 : Int) < (v : Int)) = False := eq_false (by omega)
            rw [if_neg hbig]
            simp (maxDischargeDepth := 16) only [evN, ↓evP, simprocAttr, forall_const, nuE, fr.2, vbQi, fDigit_v, fInWord_v, aDig_v, aftV_v, fracV_v, frn_v, fallD_v, hund_v, hasS_v, cutL_v, cutS_v, idxP_v, cutI_v, cutV_v, hlt, hb']
            rw [hve]; try rfl
        | cons c l ih =>
          have hln : e + (l.length + 1) = (c0 :: w').length := by have := congrArg List.length hl; simp only [List.length_drop, List.length_cons] at this ⊢; omega
          have hcd : digitB c.toNat = true := List.all_eq_true.1 had c (List.mem_of_mem_drop (by rw [hl]; exact List.mem_cons_self ..))
          obtain ⟨b5, b6⟩ := dig_bounds hcd
          have hlt : ((e : Int) < ((w'.length + 1 : Nat) : Int)) = True := eq_true (by rw [List.length_cons] at hln; omega)
          have li : ((e : Int) < 0) = False := eq_false (by omega)
          have hb : (bs (c0 :: w')).data[e]? = some c := by rw [← Array.getElem?_toList, bs_data, ← List.head?_drop, hl]; rfl
          have hl' : (c0 :: w').drop (e + 1) = l := by rw [← List.drop_drop, hl]; rfl
          have we : IntKind.i64.wrap ((e : Int) + 1) = ((e + 1 : Nat) : Int) := by rw [w_i64 (by omega) (by omega)]; omega
          have t1 : IntKind.u8.wrap ((c.toNat : Int) - 48) = ((c.toNat - 48 : Nat) : Int) := by rw [w_u8 (by omega) (by omega)]; omega
          have t2 : IntKind.i64.wrap ((c.toNat - 48 : Nat) : Int) = ((c.toNat - 48 : Nat) : Int) := w_i64 (by omega) (by omega)
          have t3 : IntKind.i64.wrap (((w'.length + 1 : Nat) : Int) - 1) = ((w'.length : Nat) : Int) := by rw [w_i64 (by omega) (by rw [List.length_cons] at h3; omega)]; omega
          have t4 : IntKind.i64.wrap (((w'.length : Nat) : Int) - (e : Int)) = ((l.length : Nat) : Int) := by rw [List.length_cons] at hln h3; rw [w_i64 (by omega) (by omega)]; omega
          have hu := hund_v l.length (by rw [List.length_cons] at hln h3; omega)
          have hP : 100 * 10 ^ l.length ≤ 10000 := by
            have : l.length ≤ 2 := by rw [List.length_cons] at hln h3; omega
            have := Nat.pow_le_pow_right (n := 10) (by decide) this
            omega
          obtain ⟨p, hp9⟩ : ∃ p, 100 * 10 ^ l.length = p := ⟨_, rfl⟩
          have hm : (c.toNat - 48) * p ≤ 9 * 10000 := Nat.mul_le_mul (by omega) (by omega)
          rw [hp9] at hu
          have t5 : IntKind.i64.wrap (((c.toNat - 48 : Nat) : Int) * (p : Int)) = (((c.toNat - 48) * p : Nat) : Int) := by rw [← Int.natCast_mul, w_i64 (by omega) (by omega)]
          have hel : e ≤ 3 := by omega
          have t6 : IntKind.i64.wrap ((v : Int) + (((c.toNat - 48) * p : Nat) : Int)) = ((v + (c.toNat - 48) * p : Nat) : Int) := by rw [w_i64 (by omega) (by omega)]; omega
          refine LoopA.intro (by kernel_rfl) ?_
          intro ν fr; have nuE := fr.nu
          simp (maxDischargeDepth := 16) only [evN, ↓evP, simprocAttr, forall_const, nuE, fr.2, vbQi, fDigit_v, fInWord_v, aDig_v, aftV_v, fracV_v, frn_v, fallD_v, hund_v, hasS_v, cutL_v, cutS_v, idxP_v, cutI_v, cutV_v, bs_size, hlt, li, hb, we, t1, t2, t3, t4, t5, t6, hu]
          have hi9 : v + (c.toNat - 48) * p + 100 * decV l 0 = ((d0.toNat - 48) * 10 + (d1.toNat - 48)) + 100 * decV (c0 :: w') 0 := by
            rw [decV_one, Nat.mul_add] at hinv
            rw [← hp9, ← hinv, Nat.mul_left_comm]
            omega
          exact LoopA.weak (ih (e + 1) (v + (c.toNat - 48) * p) (by omega) (by rw [Nat.add_mul]; omega) hl' hi9) (by simp only [subE, get_cons, Nat.reduceEqDiff, ↓reduceIte, reduceCtorEq, Nat.reduceAdd, and_self, and_true]) (SubA.refl _)
theorem ppV_v (s : ByteArray) (hs : s.size ≤ 100000) (A_ : AH) : valA Tryd.prog 7 #[.string s] A_ = some (.tuple #[.int .i64 (ppR s.toList).1, .int .i64 (ppR s.toList).2]) := valA_eq (pureA_of (by kernel_rfl) (ppV_h s hs))
end Go.Proofs.YtfphceknmgadgaaDoor
namespace Go.Proofs.YtfphceknmgadgaaDoor
open Go.Vm
set_option maxHeartbeats 1000000
set_option maxRecDepth 20000
def TabA (A : AH) : Prop := ∃ (g : Nat) (e : TypeId) (fr : Nat × Nat), Tryd.prog.globalNamed "internal/strconv.uint64pow10" = some g ∧ Vm.look A g = some (.cells (Lib.pow10Tab.map fun z => Value.int .u64 z).toArray e fr)
theorem TabA.mono {A B : AH} (h : TabA A) (hs : SubA A B) : TabA B := by
  obtain ⟨g, e, fr, h1, h2⟩ := h
  exact ⟨g, e, fr, h1, hs _ _ h2⟩
theorem TabA.of {w : World} (h : Lib.TabIs Tryd.prog w "internal/strconv.uint64pow10" .u64 Lib.pow10Tab) : ∃ A, Sat A w.heap ∧ TabA A := by
  unfold Lib.TabIs World.var? at h
  cases hg : Tryd.prog.globalNamed "internal/strconv.uint64pow10" with
  | none => rw [hg] at h; cases h
  | some g =>
    rw [hg] at h
    simp only [Option.bind_some] at h
    split at h
    · rename_i cs e fr hb
      cases h
      exact ⟨[(g, .cells _ e fr)], (fun b o hl => by
        simp only [Vm.look] at hl
        split at hl
        · rename_i e1; subst e1; cases hl; exact hb
        · cases hl), g, e, fr, hg, by simp [Vm.look]⟩
    · cases h
theorem itoa_w (A : AH) (hT : TabA A) (n : Int) (h0 : -9223372036854775808 ≤ n) (h1 : n ≤ 9223372036854775807) (B : AH) (hB : SubA A B) : valA Tryd.prog 19 #[.int .i64 n] B = some (.string (bs (Lib.itoa n))) :=
  valA_eq ⟨fun _ => by kernel_rfl, fun h hs => by
    unfold RunC
    rw [if_pos (by kernel_rfl)]
    intro w hw
    subst hw
    have ht : Lib.TabIs Tryd.prog w "internal/strconv.uint64pow10" .u64 Lib.pow10Tab := by
      obtain ⟨g, e, fr, hg, hl⟩ := hT
      have := hs _ _ (hB _ _ hl)
      unfold Lib.TabIs World.var?
      rw [hg]
      simp [this]
    refine (Tryd.strconv_Itoa n h0 h1 w ht).mono fun e w' ⟨he, k, os, hw'⟩ => ?_
    subst hw'
    exact ⟨⟨he, ⟨by simp [Go.Sort.grow, World.drewN], fun j hj => by simp only [Go.Sort.grow, World.drewN]; exact Array.getElem?_append_left hj⟩⟩, rfl, rfl, rfl⟩⟩
end Go.Proofs.YtfphceknmgadgaaDoor
namespace Go.Proofs.YtfphceknmgadgaaDoor
open Go.Vm
set_option maxHeartbeats 4000000
set_option maxRecDepth 20000
theorem itoa_ln {n : Int} (h1 : -9223372036854775808 ≤ n) (h2 : n ≤ 9223372036854775807) : (Lib.itoa n).length ≤ 20 := by
  unfold Lib.itoa
  split
  · have := dec_len 19 n.natAbs (by omega) (by omega)
    simp; omega
  · have := dec_len 19 n.toNat (by omega) (by omega)
    omega
def pcT (n : Int) : List UInt8 := Lib.itoa (n / 100) ++ ((if n % 100 = 0 then [] else 46 :: (Lib.itoa (n % 100 / 10) ++ (if n % 10 = 0 then [] else Lib.itoa (n % 10)))) ++ [37])
def pcF (n : Int) : List UInt8 := if n < 0 ∨ 10000 < n then [] else pcT n
theorem pctV_h (A : AH) (hT : TabA A) (n : Int) : CallA Tryd.prog 8 #[.int .i64 n] A (fun u_ A_ => u_ = .string (bs (pcF n)) ∧ SubA A A_) := by
  refine callA_of_denA ⟨Tryd.prog, 8, Tryd.f8, 34, [0, 2, 3, 4], ⟨[], none⟩, [], _⟩ rfl (args := [_]) Tryd.func8 rfl (by kernel_rfl) Tryd.ntmps8 (by simp) (by kernel_rfl) ?_
  intro ν fr; have nuE := fr.nu
  by_cases h1 : n < 0
  · have hr : pcF n = [] := if_pos (.inl h1)
    rw [hr]
    simp (maxDischargeDepth := 16) only [evN, ↓evP, simprocAttr, forall_const, nuE, fr.2, vbQi, fDigit_v, fInWord_v, aDig_v, aftV_v, fracV_v, frn_v, fallD_v, hund_v, hasS_v, cutL_v, cutS_v, idxP_v, cutI_v, cutV_v, ppV_v, eq_true h1]
    rfl
  by_cases h2 : 10000 < n
  · have hr : pcF n = [] := if_pos (.inr h2)
    rw [hr]
    simp (maxDischargeDepth := 16) only [evN, ↓evP, simprocAttr, forall_const, nuE, fr.2, vbQi, fDigit_v, fInWord_v, aDig_v, aftV_v, fracV_v, frn_v, fallD_v, hund_v, hasS_v, cutL_v, cutS_v, idxP_v, cutI_v, cutV_v, ppV_v, eq_false h1, eq_true h2]
    rfl
  have hr : pcF n = pcT n := if_neg (by omega)
  rw [hr]
  have d1 : IntKind.i64.wrap (n.tdiv 100) = n / 100 := by rw [Int.tdiv_eq_ediv_of_nonneg (by omega), w_i64 (by omega) (by omega)]
  have m1 : n.tmod 100 = n % 100 := Int.tmod_eq_emod_of_nonneg (by omega)
  have d2 : IntKind.i64.wrap ((n % 100).tdiv 10) = n % 100 / 10 := by rw [Int.tdiv_eq_ediv_of_nonneg (by omega), w_i64 (by omega) (by omega)]
  have m2 : (n % 100).tmod 10 = n % 10 := by rw [Int.tmod_eq_emod_of_nonneg (by omega)]; omega
  have i1 := itoa_w A hT (n / 100) (by omega) (by omega) A (SubA.refl _)
  have i2 := itoa_w A hT (n % 100 / 10) (by omega) (by omega) A (SubA.refl _)
  have i3 := itoa_w A hT (n % 10) (by omega) (by omega) A (SubA.refl _)
  have l1 := itoa_ln (n := n / 100) (by omega) (by omega)
  have l2 := itoa_ln (n := n % 100 / 10) (by omega) (by omega)
  have l3 := itoa_ln (n := n % 10) (by omega) (by omega)
  unfold pcT
  by_cases h3 : n % 100 = 0
  · have h3' : (n % 100 != 0) = false := by simp [h3]
    simp (maxDischargeDepth := 16) only [evN, ↓evP, simprocAttr, forall_const, nuE, fr.2, vbQi, fDigit_v, fInWord_v, aDig_v, aftV_v, fracV_v, frn_v, fallD_v, hund_v, hasS_v, cutL_v, cutS_v, idxP_v, cutI_v, cutV_v, ppV_v, eq_false h1, eq_false h2, d1, m1, i1, h3, h3']
    rw [show ByteArray.mk #[37] = bs [37] from rfl]
    simp only [bs_app, bs_size, List.length_append, List.length_cons, List.length_nil]
    exact ⟨by omega, by simp⟩
  have h3' : (n % 100 != 0) = true := by simp [h3]
  by_cases h4 : n % 10 = 0
  · have h4' : (n % 10 != 0) = false := by simp [h4]
    simp (maxDischargeDepth := 16) only [evN, ↓evP, simprocAttr, forall_const, nuE, fr.2, vbQi, fDigit_v, fInWord_v, aDig_v, aftV_v, fracV_v, frn_v, fallD_v, hund_v, hasS_v, cutL_v, cutS_v, idxP_v, cutI_v, cutV_v, ppV_v, eq_false h1, eq_false h2, d1, m1, d2, m2, i1, i2, h3, h3', h4, h4']
    rw [show ByteArray.mk #[37] = bs [37] from rfl, show ByteArray.mk #[46] = bs [46] from rfl]
    simp only [bs_app, bs_size, List.length_append, List.length_cons, List.length_nil]
    exact ⟨by omega, by omega, by omega, by simp⟩
  have h4' : (n % 10 != 0) = true := by simp [h4]
  simp (maxDischargeDepth := 16) only [evN, ↓evP, simprocAttr, forall_const, nuE, fr.2, vbQi, fDigit_v, fInWord_v, aDig_v, aftV_v, fracV_v, frn_v, fallD_v, hund_v, hasS_v, cutL_v, cutS_v, idxP_v, cutI_v, cutV_v, ppV_v, eq_false h1, eq_false h2, d1, m1, d2, m2, i1, i2, i3, h3, h3', h4, h4']
  rw [show ByteArray.mk #[37] = bs [37] from rfl, show ByteArray.mk #[46] = bs [46] from rfl]
  simp only [bs_app, bs_size, List.length_append, List.length_cons, List.length_nil]
  exact ⟨by omega, by omega, by omega, by omega, by simp⟩
theorem pctV_w (A : AH) (hT : TabA A) (n : Int) (B_ : AH) (hB_ : SubA A B_) : valA Tryd.prog 8 #[.int .i64 n] B_ = some (.string (bs (pcF n))) := valA_eq (pureA_at (by kernel_rfl) (pctV_h A hT n) hB_)
end Go.Proofs.YtfphceknmgadgaaDoor
namespace Go.Proofs.YtfphceknmgadgaaDoor
open Go.Vm
set_option maxHeartbeats 4000000
set_option maxRecDepth 20000
theorem utl_last {c : UInt8} : ∀ r : List UInt8, r.drop (utl c r) ≠ [] → 0 < utl c r ∧ r[utl c r - 1]? = some c
  | [], h => by simp [utl] at h
  | x :: r, h => by
    by_cases hx : x = c
    · subst hx; simp [utl]
    · simp only [utl, if_neg hx, List.drop_succ_cons] at h ⊢
      obtain ⟨h1, h2⟩ := utl_last r h
      refine ⟨by omega, ?_⟩
      rw [show utl c r + 1 - 1 = utl c r - 1 + 1 by omega, List.getElem?_cons_succ]
      exact h2
theorem frL_pc {l : List UInt8} {d k : Nat} (h : frL l = some (d, k)) : ∃ t, l.drop (d + k) = 37 :: t := by
  unfold frL at h
  split at h
  · rename_i c m hm
    split at h
    · split at h
      · cases h
      · split at h
        · rename_i x y hy
          split at h
          · rename_i hx
            simp only [Option.some.injEq, Prod.mk.injEq] at h
            obtain ⟨rfl, rfl⟩ := h
            refine ⟨y, ?_⟩
            rw [← List.drop_drop, hm, List.drop_succ_cons, hy, hx]
          · cases h
        · cases h
    · cases h
  · cases h
def RowB (cs : Array Value) (l : List UInt8) : Prop := ∀ (j : Nat) (c : UInt8), l[j]? = some c → cs[j]? = some (.int .u8 (c.toNat : Int))
theorem RowB.set {cs : Array Value} {l : List UInt8} (h : RowB cs l) (k : Nat) (c : UInt8) (n : Int) (hc : (c.toNat : Int) = n) (hk : k < cs.size) : RowB (cs.setIfInBounds k (.int .u8 n)) (l.set k c) := by
  intro j d hj
  rw [List.getElem?_set] at hj
  rw [Array.getElem?_setIfInBounds]
  split at hj
  · rename_i e
    subst e
    rw [if_pos rfl, if_pos hk]
    split at hj
    · cases hj; rw [hc]
    · cases hj
  · rename_i e
    rw [if_neg e]
    exact h j d hj
theorem set_mid (a b : List UInt8) (x y : UInt8) (n : Nat) (hn : n = a.length) : (a ++ x :: b).set n y = a ++ y :: b := by
  subst hn
  rw [List.set_append]
  simp
theorem wrO_one {A : AH} {b : Nat} {c : Array Value} {e : TypeId} {fr : Nat × Nat} {i : Nat} {v : Value} (h1 : i < c.size) (h2 : i + 1 ≤ fr.1) (h3 : v.oneCell' = true) : wrO A b (some (.cells c e fr)) (i * 1) [v] = some (putB A b (.cells (c.setIfInBounds i v) e fr)) := by
  rw [Nat.mul_one]
  unfold wrO
  simp only [List.length_cons, List.length_nil, okCells, h3, Bool.and_true]
  rw [if_pos ⟨by omega, .inr (by omega), trivial⟩]
  rfl
theorem wofA_h (s : ByteArray) (hs : s.size ≤ 100000) : CallA Tryd.prog 10 #[.string s] [] (fun u_ A_ => u_ = .string (plB s)) := by
  refine callA_of_denA ⟨Tryd.prog, 10, Tryd.f10, 71, [0, 2, 3, 4, 5, 6, 7], ⟨[], none⟩, [], _⟩ rfl (args := [_]) Tryd.func10 rfl (by kernel_rfl) Tryd.ntmps10 (by simp) (by kernel_rfl) ?_
  intro ν fr; have nuE := fr.nu
  simp (maxDischargeDepth := 16) only [evN, ↓evP, simprocAttr, forall_const, nuE, fr.2, vbQi, fDigit_v, fInWord_v, aDig_v, aftV_v, fracV_v, frn_v, fallD_v, hund_v, hasS_v, cutL_v, cutS_v, idxP_v, cutI_v, cutV_v, ppV_v]
  refine rA_bytes (e := 5) Tryd.underlying9 Tryd.underlying58 Tryd.underlying5 ?_
  intro g cap cs fc hg hcap hcs hfc hrow
  clear nuE fr
  intro ν fr; have nuE := And.intro (fr.mem (b := g) (by simp)) (fr.nu)
  simp (maxDischargeDepth := 16) only [evN, ↓evP, simprocAttr, forall_const, nuE, fr.2, vbQi, fDigit_v, fInWord_v, aDig_v, aftV_v, fracV_v, frn_v, fallD_v, hund_v, hasS_v, cutL_v, cutS_v, idxP_v, cutI_v, cutV_v, ppV_v]
  clear nuE fr
  obtain ⟨i, w, pre, hi0, hi, hpl, hpw, hcs', hrow', hw⟩ : ∃ (i : Nat) (w : Bool) (pre : List UInt8), i = 0 ∧ i ≤ s.size ∧ pre.length = i ∧ pre ++ pW w (s.toList.drop i) = plT s.toList ∧ cs.size = cap ∧ RowB cs (pre ++ s.toList.drop i) ∧ (∀ c r, s.toList.drop i = c :: r → digitB c.toNat = true → (w = true ↔ ∃ d, 0 < i ∧ s.toList[i - 1]? = some d ∧ wordB d.toNat = true)) :=
    ⟨0, false, [], rfl, by omega, rfl, rfl, hcs, hrow, fun c r _ _ => by simp⟩
  rw [show (4, some (Value.int .i64 0)) = (4, some (Value.int .i64 (i : Int))) by rw [hi0]; rfl]
  rw [hcs] at hfc
  clear hi0 hrow hcs
  obtain ⟨m, hm⟩ : ∃ m, s.size - i = m := ⟨_, rfl⟩
  induction m using Nat.strongRecOn generalizing i w pre cs with
  | ind m ih =>
    cases hl : s.toList.drop i with
    | nil =>
      have hlt : ((i : Int) < (s.size : Int)) = False := by have := byte_end hl; simp; omega
      rw [hl, pW_nil, List.append_nil] at hpw
      rw [hl, List.append_nil, hpw] at hrow'
      refine LoopA.intro (by kernel_rfl) ?_
      intro ν fr; have nuE := And.intro (fr.mem (b := g) (by simp)) (fr.nu)
      have hrd := rd_bytesT (P := Tryd.prog) (A := [(g, Obj.cells cs 5 fc)]) (cap := cap) (cs := cs) (e' := 5) (fr := fc) (g := g) (src := 58) (dst := 9) (e := 5) (l := plT s.toList) Tryd.underlying58 Tryd.underlying5 Tryd.underlying9 (by simp [Vm.look]) hrow'
      rw [plT_len, size_list] at hrd
      simp (maxDischargeDepth := 16) only [evN, ↓evP, simprocAttr, forall_const, nuE, fr.2, vbQi, fDigit_v, fInWord_v, aDig_v, aftV_v, fracV_v, frn_v, fallD_v, hund_v, hasS_v, cutL_v, cutS_v, idxP_v, cutI_v, cutV_v, ppV_v, hlt, hrd]
      rfl
    | cons c r =>
      obtain ⟨hp, hc, hl', hsl, hb⟩ := byte_at hl
      have hlt : ((i : Int) < (s.size : Int)) = True := by simp; omega
      have hlen : i + (r.length + 1) = s.size := by
        have := congrArg List.length hl
        rw [List.length_drop, size_list, List.length_cons] at this; omega
      have we : IntKind.i64.wrap ((i : Int) + 1) = ((i + 1 : Nat) : Int) := by rw [w_i64 (by omega) (by omega)]; omega
      have q35' : ((c.toNat : Int) = 35) = (c = 35) := propext ⟨fun h => by rw [← UInt8.toNat_inj]; have : (35 : UInt8).toNat = 35 := rfl; omega, fun h => by rw [h]; rfl⟩
      have q35 : ((c.toNat : Int) == 35) = decide (c = 35) := by
        by_cases h : c = 35
        · subst h; rfl
        · have h2 : ¬ (c.toNat : Int) = 35 := by rw [q35']; exact h
          simp [h, h2]
      have q34' : ((c.toNat : Int) = 34) = (c = 34) := propext ⟨fun h => by rw [← UInt8.toNat_inj]; have : (34 : UInt8).toNat = 34 := rfl; omega, fun h => by rw [h]; rfl⟩
      have q34 : ((c.toNat : Int) == 34) = decide (c = 34) := by
        by_cases h : c = 34
        · subst h; rfl
        · have h2 : ¬ (c.toNat : Int) = 34 := by rw [q34']; exact h
          simp [h, h2]
      have a10 : ∀ A, valA Tryd.prog 20 #[.string s, .int .i64 (i : Int), .int .u8 10] A = _ := aftV_v s i 10 (by omega) hs
      have a34 : ∀ A, valA Tryd.prog 20 #[.string s, .int .i64 ((i + 1 : Nat) : Int), .int .u8 34] A = _ := aftV_v s (i + 1) 34 (by omega) hs
      rw [hl] at a10 hpw hrow'
      rw [hl'] at a34
      rw [pW_cons] at hpw
      -- a step that leaves the row as it is
      have step : ∀ (n : Nat) (w' : Bool), n ≤ r.length → (∀ d t, r.drop n = d :: t → digitB d.toNat = true → (w' = true ↔ ∃ x, (c :: r)[n]? = some x ∧ wordB x.toNat = true)) → pre ++ (c :: (r.take n ++ pW w' (r.drop n))) = plT s.toList →
          (pre ++ c :: r.take n).length = i + 1 + n ∧ (pre ++ c :: r.take n) ++ pW w' (s.toList.drop (i + 1 + n)) = plT s.toList ∧ RowB cs ((pre ++ c :: r.take n) ++ s.toList.drop (i + 1 + n)) ∧
          (∀ d t, s.toList.drop (i + 1 + n) = d :: t → digitB d.toNat = true → (w' = true ↔ ∃ x, 0 < i + 1 + n ∧ s.toList[i + 1 + n - 1]? = some x ∧ wordB x.toNat = true)) := fun n w' h1 h2 h3 => by
        have hdr : s.toList.drop (i + 1 + n) = r.drop n := by rw [← List.drop_drop, hl']
        have hix : s.toList[i + 1 + n - 1]? = (c :: r)[n]? := by rw [← hl, List.getElem?_drop]; congr 1; omega
        refine ⟨by rw [List.length_append, List.length_cons, List.length_take]; omega, by rw [hdr, ← h3]; simp, ?_, fun d t h4 h5 => ?_⟩
        · rw [hdr]
          have e : (pre ++ c :: r.take n) ++ r.drop n = pre ++ c :: r := by simp
          rw [e]; exact hrow'
        · rw [hdr] at h4
          rw [h2 d t h4 h5, hix]
          exact ⟨fun ⟨x, a, b⟩ => ⟨x, by omega, a, b⟩, fun ⟨x, _, a, b⟩ => ⟨x, a, b⟩⟩
      refine LoopA.intro (by kernel_rfl) ?_
      intro ν fr; have nuE := And.intro (fr.mem (b := g) (by simp)) (fr.nu)
      by_cases h35 : c = 35
      · rw [if_pos h35] at hpw
        have e10 : i + utl 10 (c :: r) = i + 1 + utl 10 r := by rw [h35]; simp only [utl]; rw [if_neg (by decide)]; omega
        simp (maxDischargeDepth := 16) only [evN, ↓evP, simprocAttr, forall_const, nuE, fr.2, vbQi, fDigit_v, fInWord_v, aDig_v, aftV_v, fracV_v, frn_v, fallD_v, hund_v, hasS_v, cutL_v, cutS_v, idxP_v, cutI_v, cutV_v, ppV_v, hlt, hb, q35, q35', eq_true h35, a10]
        rw [e10]
        have hu := utl_le 10 r
        obtain ⟨s1, s2, s3, s4⟩ := step (utl 10 r) false hu (fun d t h4 h5 => by
          obtain ⟨u1, u2⟩ := utl_last r (by rw [h4]; simp)
          constructor
          · intro h; cases h
          · rintro ⟨x, hx, hx2⟩
            rw [show utl 10 r = utl 10 r - 1 + 1 by omega, List.getElem?_cons_succ, u2] at hx
            cases hx; exact absurd hx2 (by decide)) hpw
        exact LoopA.weak (ih (s.size - (i + 1 + utl 10 r)) (by omega) cs (i + 1 + utl 10 r) false _ (by omega) s1 s2 hcs' s3 s4 rfl) (by simp only [subE, get_cons, Nat.reduceEqDiff, ↓reduceIte, reduceCtorEq, Nat.reduceAdd, and_self, and_true]) (SubA.refl _)
      rw [if_neg h35] at hpw
      by_cases h34 : c = 34
      · rw [if_pos h34] at hpw
        simp (maxDischargeDepth := 16) only [evN, ↓evP, simprocAttr, forall_const, nuE, fr.2, vbQi, fDigit_v, fInWord_v, aDig_v, aftV_v, fracV_v, frn_v, fallD_v, hund_v, hasS_v, cutL_v, cutS_v, idxP_v, cutI_v, cutV_v, ppV_v, hlt, hb, q35, q35', eq_false h35, q34, q34', eq_true h34, we, a34]
        have hu := utl_le 34 r
        obtain ⟨s1, s2, s3, s4⟩ := step (utl 34 r) false hu (fun d t h4 h5 => by
          obtain ⟨u1, u2⟩ := utl_last r (by rw [h4]; simp)
          constructor
          · intro h; cases h
          · rintro ⟨x, hx, hx2⟩
            rw [show utl 34 r = utl 34 r - 1 + 1 by omega, List.getElem?_cons_succ, u2] at hx
            cases hx; exact absurd hx2 (by decide)) hpw
        exact LoopA.weak (ih (s.size - (i + 1 + utl 34 r)) (by omega) cs (i + 1 + utl 34 r) false _ (by omega) s1 s2 hcs' s3 s4 rfl) (by simp only [subE, get_cons, Nat.reduceEqDiff, ↓reduceIte, reduceCtorEq, Nat.reduceAdd, and_self, and_true]) (SubA.refl _)
      rw [if_neg h34] at hpw
      have plain : pre ++ c :: pW (wordB c.toNat) r = plT s.toList → _ := fun h => step 0 (wordB c.toNat) (Nat.zero_le _) (fun d t h4 h5 => ⟨fun h => ⟨c, rfl, h⟩, fun ⟨x, hx, h⟩ => by cases hx; exact h⟩) (by rw [List.take_zero, List.drop_zero, List.nil_append]; exact h)
      have w0 := hw c r hl
      cases hdg : digitB c.toNat with
      | false =>
        rw [if_neg (by rw [hdg]; simp)] at hpw
        simp (maxDischargeDepth := 16) only [evN, ↓evP, simprocAttr, forall_const, nuE, fr.2, vbQi, fDigit_v, fInWord_v, aDig_v, aftV_v, fracV_v, frn_v, fallD_v, hund_v, hasS_v, cutL_v, cutS_v, idxP_v, cutI_v, cutV_v, ppV_v, hlt, hb, q35, q35', eq_false h35, q34, q34', eq_false h34, hdg, we]
        obtain ⟨s1, s2, s3, s4⟩ := plain hpw
        exact LoopA.weak (ih (s.size - (i + 1)) (by omega) cs (i + 1) (wordB c.toNat) _ (by omega) s1 s2 hcs' s3 s4 rfl) (by simp only [subE, get_cons, Nat.reduceEqDiff, ↓reduceIte, reduceCtorEq, Nat.reduceAdd, and_self, and_true]) (SubA.refl _)
      | true =>
      have w1 := w0 hdg
      have hwc : wordB c.toNat = true := by simp [wordB, hdg]
      by_cases hwt : w = true
      · obtain ⟨d, hi0, hd1, hd2⟩ := w1.1 hwt
        rw [if_neg (by rw [hwt]; simp)] at hpw
        have z1 : ((i : Int) = 0) = False := eq_false (by omega)
        have z2 : ((i : Int) == 0) = false := by simp; omega
        have wm : IntKind.i64.wrap ((i : Int) - 1) = ((i - 1 : Nat) : Int) := by rw [w_i64 (by omega) (by omega)]; omega
        have lm : (((i - 1 : Nat) : Int) < 0) = False := eq_false (by omega)
        have hbm : s.data[i - 1]? = some d := by rw [← hd1, ByteArray.toList_eq, Array.getElem?_toList]
        simp (maxDischargeDepth := 16) only [evN, ↓evP, simprocAttr, forall_const, nuE, fr.2, vbQi, fDigit_v, fInWord_v, aDig_v, aftV_v, fracV_v, frn_v, fallD_v, hund_v, hasS_v, cutL_v, cutS_v, idxP_v, cutI_v, cutV_v, ppV_v, hlt, hb, q35, q35', eq_false h35, q34, q34', eq_false h34, hdg, we, z1, z2, wm, lm, hbm, hd2]
        obtain ⟨s1, s2, s3, s4⟩ := plain hpw
        exact LoopA.weak (ih (s.size - (i + 1)) (by omega) cs (i + 1) (wordB c.toNat) _ (by omega) s1 s2 hcs' s3 s4 rfl) (by simp only [subE, get_cons, Nat.reduceEqDiff, ↓reduceIte, reduceCtorEq, Nat.reduceAdd, and_self, and_true]) (SubA.refl _)
      have hwf : w = false := by simpa using hwt
      rw [if_pos ⟨hdg, hwf⟩] at hpw
      have fv := fracV_v s i (by omega) hs
      unfold frV at fv
      rw [hl] at fv
      rcases Nat.eq_zero_or_pos i with hi0 | hi0
      · have z1 : ((i : Int) = 0) = True := eq_true (by omega)
        have z2 : ((i : Int) == 0) = true := by simp; omega
        cases hf : frL (c :: r) with
        | none =>
          rw [hf] at fv hpw
          simp only at fv hpw
          have m0 : (((i + 1 : Nat) : Int) < 0) = False := eq_false (by omega)
          have c00 : ((0 : Nat) : Int) = 0 := rfl
          simp (maxDischargeDepth := 16) only [evN, ↓evP, simprocAttr, forall_const, nuE, fr.2, vbQi, fDigit_v, fInWord_v, aDig_v, aftV_v, fracV_v, frn_v, fallD_v, hund_v, hasS_v, cutL_v, cutS_v, idxP_v, cutI_v, cutV_v, ppV_v, hlt, hb, q35, q35', eq_false h35, q34, q34', eq_false h34, hdg, we, z1, z2, fv, c00]
          clear nuE fr
          refine LoopA.intro (by kernel_rfl) ?_
          intro ν fr; have nuE := And.intro (fr.mem (b := g) (by simp)) (fr.nu)
          simp (maxDischargeDepth := 16) only [evN, ↓evP, simprocAttr, forall_const, nuE, fr.2, vbQi, fDigit_v, fInWord_v, aDig_v, aftV_v, fracV_v, frn_v, fallD_v, hund_v, hasS_v, cutL_v, cutS_v, idxP_v, cutI_v, cutV_v, ppV_v, we, m0]
          obtain ⟨s1, s2, s3, s4⟩ := plain (by rw [hwc]; exact hpw)
          exact LoopA.weak (ih (s.size - (i + 1)) (by omega) cs (i + 1) (wordB c.toNat) _ (by omega) s1 s2 hcs' s3 s4 rfl) (by simp only [subE, get_cons, Nat.reduceEqDiff, ↓reduceIte, reduceCtorEq, Nat.reduceAdd, and_self, and_true]) (SubA.refl _)
        | some p =>
          obtain ⟨d, k⟩ := p
          rw [hf] at fv hpw
          simp only at fv hpw
          obtain ⟨f1, f2, f3⟩ := frL_len hf
          obtain ⟨tl, htl⟩ := frL_pc hf
          rw [List.length_cons] at f2
          simp (maxDischargeDepth := 16) only [evN, ↓evP, simprocAttr, forall_const, nuE, fr.2, vbQi, fDigit_v, fInWord_v, aDig_v, aftV_v, fracV_v, frn_v, fallD_v, hund_v, hasS_v, cutL_v, cutS_v, idxP_v, cutI_v, cutV_v, ppV_v, hlt, hb, q35, q35', eq_false h35, q34, q34', eq_false h34, hdg, we, z1, z2, fv]
          clear nuE fr
          obtain ⟨t, cs2, ht, hc2, ht1, ht2, hz2, hr2⟩ : ∃ (t : Nat) (cs2 : Array Value), t = i + d ∧ cs2 = cs ∧ i + d ≤ t ∧ t ≤ i + d + k ∧ cs2.size = cap ∧ RowB cs2 (pre ++ ((c :: r).take d ++ (List.replicate (t - (i + d)) 32 ++ (c :: r).drop (t - i)))) :=
            ⟨i + d, cs, rfl, rfl, by omega, by omega, hcs', by rw [Nat.sub_self, show i + d - i = d by omega, List.replicate_zero, List.nil_append, List.take_append_drop]; exact hrow'⟩
          rw [show (7, some (Value.int .i64 ((i + d : Nat) : Int))) = (7, some (Value.int .i64 (t : Int))) by rw [ht], ← hc2]
          clear ht hc2
          generalize hkm : i + d + k - t = km
          induction km generalizing t cs2 with
          | zero =>
            have hlt2 : ((t : Int) < ((i + d + k : Nat) : Int)) = False := eq_false (by omega)
            have mx : (((i + 1 : Nat) : Int) < ((i + d + k : Nat) : Int)) = True := eq_true (by omega)
            have hte : t = i + (d + k) := by omega
            rw [show t - (i + d) = k by omega, show t - i = d + k by omega, htl] at hr2
            have hdr : s.toList.drop (i + d + k) = 37 :: tl := by rw [Nat.add_assoc, ← List.drop_drop, hl, htl]
            refine LoopA.intro (by kernel_rfl) ?_
            intro ν fr; have nuE := And.intro (fr.mem (b := g) (by simp)) (fr.nu)
            simp (maxDischargeDepth := 16) only [evN, ↓evP, simprocAttr, forall_const, nuE, fr.2, vbQi, fDigit_v, fInWord_v, aDig_v, aftV_v, fracV_v, frn_v, fallD_v, hund_v, hasS_v, cutL_v, cutS_v, idxP_v, cutI_v, cutV_v, ppV_v, hlt2, we, mx]
            refine LoopA.weak (ih (s.size - (i + d + k)) (by omega) cs2 (i + d + k) false (pre ++ ((c :: r).take d ++ List.replicate k 32)) (by omega) (by simp; omega) (by rw [hdr, ← hpw, htl]; simp) hz2 (by rw [hdr]; simpa using hr2) (fun d' t' h4 h5 => by rw [hdr] at h4; cases h4; exact absurd h5 (by decide)) rfl) (by simp only [subE, get_cons, Nat.reduceEqDiff, ↓reduceIte, reduceCtorEq, Nat.reduceAdd, and_self, and_true]) (SubA.refl _)
          | succ km ihk =>
            have hlt2 : ((t : Int) < ((i + d + k : Nat) : Int)) = True := eq_true (by omega)
            have lt3 : ((t : Int) < (s.size : Int)) = True := eq_true (by omega)
            have li3 : ((t : Int) < 0) = False := eq_false (by omega)
            have wt : IntKind.i64.wrap ((t : Int) + 1) = ((t + 1 : Nat) : Int) := by rw [w_i64 (by omega) (by omega)]; omega
            have lz : t < cs2.size := by omega
            refine LoopA.intro (by kernel_rfl) ?_
            intro ν fr; have nuE := And.intro (fr.mem (b := g) (by simp)) (fr.nu)
            have hwr := wrO_one (A := [(g, Obj.cells cs2 5 fc)]) (b := g) (c := cs2) (e := 5) (fr := fc) (i := t) (v := .int .u8 32) lz (by omega) rfl
            have hpt : putB [(g, Obj.cells cs2 5 fc)] g (.cells (cs2.setIfInBounds t (.int .u8 32)) 5 fc) = [(g, Obj.cells (cs2.setIfInBounds t (.int .u8 32)) 5 fc)] := by simp [putB]
            rw [hpt] at hwr
            simp (maxDischargeDepth := 16) only [evN, ↓evP, simprocAttr, forall_const, nuE, fr.2, vbQi, fDigit_v, fInWord_v, aDig_v, aftV_v, fracV_v, frn_v, fallD_v, hund_v, hasS_v, cutL_v, cutS_v, idxP_v, cutI_v, cutV_v, ppV_v, hlt2, lt3, li3, wt, lz, hwr]
            have hnx : pre ++ ((c :: r).take d ++ (List.replicate (t + 1 - (i + d)) 32 ++ (c :: r).drop (t + 1 - i))) = (pre ++ ((c :: r).take d ++ (List.replicate (t - (i + d)) 32 ++ (c :: r).drop (t - i)))).set t 32 := by
              obtain ⟨y, z, hyz⟩ : ∃ y z, (c :: r).drop (t - i) = y :: z := by
                cases hq : (c :: r).drop (t - i) with
                | nil => have := congrArg List.length hq; simp at this; omega
                | cons y z => exact ⟨y, z, rfl⟩
              have hz : (c :: r).drop (t + 1 - i) = z := by rw [show t + 1 - i = (t - i) + 1 by omega, ← List.drop_drop, hyz]; rfl
              rw [hyz, hz, show t + 1 - (i + d) = (t - (i + d)) + 1 by omega, List.replicate_succ']
              rw [show pre ++ ((c :: r).take d ++ (List.replicate (t - (i + d)) 32 ++ y :: z)) = (pre ++ ((c :: r).take d ++ List.replicate (t - (i + d)) 32)) ++ y :: z by simp, set_mid _ _ _ _ _ (by simp; omega)]
              simp
            exact LoopA.weak (ihk (t + 1) (cs2.setIfInBounds t (.int .u8 32)) (by omega) (by omega) (by simpa using hz2) (by rw [hnx]; exact hr2.set t 32 32 rfl lz) (by omega)) (by simp only [subE, get_cons, Nat.reduceEqDiff, ↓reduceIte, reduceCtorEq, Nat.reduceAdd, and_self, and_true]) (SubA.refl _)
      · obtain ⟨d, hd1⟩ : ∃ d, s.toList[i - 1]? = some d := ⟨_, List.getElem?_eq_getElem (by rw [size_list]; omega)⟩
        have hd2 : wordB d.toNat = false := by
          cases hx : wordB d.toNat with
          | false => rfl
          | true => exact absurd (w1.2 ⟨d, hi0, hd1, hx⟩) hwt
        have z1 : ((i : Int) = 0) = False := eq_false (by omega)
        have z2 : ((i : Int) == 0) = false := by simp; omega
        have wm : IntKind.i64.wrap ((i : Int) - 1) = ((i - 1 : Nat) : Int) := by rw [w_i64 (by omega) (by omega)]; omega
        have lm : (((i - 1 : Nat) : Int) < 0) = False := eq_false (by omega)
        have hbm : s.data[i - 1]? = some d := by rw [← hd1, ByteArray.toList_eq, Array.getElem?_toList]
        have hd3 := hd2
        clear hd1 hd2
        cases hf : frL (c :: r) with
        | none =>
          rw [hf] at fv hpw
          simp only at fv hpw
          have m0 : (((i + 1 : Nat) : Int) < 0) = False := eq_false (by omega)
          have c00 : ((0 : Nat) : Int) = 0 := rfl
          simp (maxDischargeDepth := 16) only [evN, ↓evP, simprocAttr, forall_const, nuE, fr.2, vbQi, fDigit_v, fInWord_v, aDig_v, aftV_v, fracV_v, frn_v, fallD_v, hund_v, hasS_v, cutL_v, cutS_v, idxP_v, cutI_v, cutV_v, ppV_v, hlt, hb, q35, q35', eq_false h35, q34, q34', eq_false h34, hdg, we, z1, z2, wm, lm, hbm, hd3, fv, c00]
          clear nuE fr
          refine LoopA.intro (by kernel_rfl) ?_
          intro ν fr; have nuE := And.intro (fr.mem (b := g) (by simp)) (fr.nu)
          simp (maxDischargeDepth := 16) only [evN, ↓evP, simprocAttr, forall_const, nuE, fr.2, vbQi, fDigit_v, fInWord_v, aDig_v, aftV_v, fracV_v, frn_v, fallD_v, hund_v, hasS_v, cutL_v, cutS_v, idxP_v, cutI_v, cutV_v, ppV_v, we, m0]
          obtain ⟨s1, s2, s3, s4⟩ := plain (by rw [hwc]; exact hpw)
          exact LoopA.weak (ih (s.size - (i + 1)) (by omega) cs (i + 1) (wordB c.toNat) _ (by omega) s1 s2 hcs' s3 s4 rfl) (by simp only [subE, get_cons, Nat.reduceEqDiff, ↓reduceIte, reduceCtorEq, Nat.reduceAdd, and_self, and_true]) (SubA.refl _)
        | some p =>
          obtain ⟨d, k⟩ := p
          rw [hf] at fv hpw
          simp only at fv hpw
          obtain ⟨f1, f2, f3⟩ := frL_len hf
          obtain ⟨tl, htl⟩ := frL_pc hf
          rw [List.length_cons] at f2
          simp (maxDischargeDepth := 16) only [evN, ↓evP, simprocAttr, forall_const, nuE, fr.2, vbQi, fDigit_v, fInWord_v, aDig_v, aftV_v, fracV_v, frn_v, fallD_v, hund_v, hasS_v, cutL_v, cutS_v, idxP_v, cutI_v, cutV_v, ppV_v, hlt, hb, q35, q35', eq_false h35, q34, q34', eq_false h34, hdg, we, z1, z2, wm, lm, hbm, hd3, fv]
          clear nuE fr
          obtain ⟨t, cs2, ht, hc2, ht1, ht2, hz2, hr2⟩ : ∃ (t : Nat) (cs2 : Array Value), t = i + d ∧ cs2 = cs ∧ i + d ≤ t ∧ t ≤ i + d + k ∧ cs2.size = cap ∧ RowB cs2 (pre ++ ((c :: r).take d ++ (List.replicate (t - (i + d)) 32 ++ (c :: r).drop (t - i)))) :=
            ⟨i + d, cs, rfl, rfl, by omega, by omega, hcs', by rw [Nat.sub_self, show i + d - i = d by omega, List.replicate_zero, List.nil_append, List.take_append_drop]; exact hrow'⟩
          rw [show (7, some (Value.int .i64 ((i + d : Nat) : Int))) = (7, some (Value.int .i64 (t : Int))) by rw [ht], ← hc2]
          clear ht hc2
          generalize hkm : i + d + k - t = km
          induction km generalizing t cs2 with
          | zero =>
            have hlt2 : ((t : Int) < ((i + d + k : Nat) : Int)) = False := eq_false (by omega)
            have mx : (((i + 1 : Nat) : Int) < ((i + d + k : Nat) : Int)) = True := eq_true (by omega)
            have hte : t = i + (d + k) := by omega
            rw [show t - (i + d) = k by omega, show t - i = d + k by omega, htl] at hr2
            have hdr : s.toList.drop (i + d + k) = 37 :: tl := by rw [Nat.add_assoc, ← List.drop_drop, hl, htl]
            refine LoopA.intro (by kernel_rfl) ?_
            intro ν fr; have nuE := And.intro (fr.mem (b := g) (by simp)) (fr.nu)
            simp (maxDischargeDepth := 16) only [evN, ↓evP, simprocAttr, forall_const, nuE, fr.2, vbQi, fDigit_v, fInWord_v, aDig_v, aftV_v, fracV_v, frn_v, fallD_v, hund_v, hasS_v, cutL_v, cutS_v, idxP_v, cutI_v, cutV_v, ppV_v, hlt2, we, mx]
            refine LoopA.weak (ih (s.size - (i + d + k)) (by omega) cs2 (i + d + k) false (pre ++ ((c :: r).take d ++ List.replicate k 32)) (by omega) (by simp; omega) (by rw [hdr, ← hpw, htl]; simp) hz2 (by rw [hdr]; simpa using hr2) (fun d' t' h4 h5 => by rw [hdr] at h4; cases h4; exact absurd h5 (by decide)) rfl) (by simp only [subE, get_cons, Nat.reduceEqDiff, ↓reduceIte, reduceCtorEq, Nat.reduceAdd, and_self, and_true]) (SubA.refl _)
          | succ km ihk =>
            have hlt2 : ((t : Int) < ((i + d + k : Nat) : Int)) = True := eq_true (by omega)
            have lt3 : ((t : Int) < (s.size : Int)) = True := eq_true (by omega)
            have li3 : ((t : Int) < 0) = False := eq_false (by omega)
            have wt : IntKind.i64.wrap ((t : Int) + 1) = ((t + 1 : Nat) : Int) := by rw [w_i64 (by omega) (by omega)]; omega
            have lz : t < cs2.size := by omega
            refine LoopA.intro (by kernel_rfl) ?_
            intro ν fr; have nuE := And.intro (fr.mem (b := g) (by simp)) (fr.nu)
            have hwr := wrO_one (A := [(g, Obj.cells cs2 5 fc)]) (b := g) (c := cs2) (e := 5) (fr := fc) (i := t) (v := .int .u8 32) lz (by omega) rfl
            have hpt : putB [(g, Obj.cells cs2 5 fc)] g (.cells (cs2.setIfInBounds t (.int .u8 32)) 5 fc) = [(g, Obj.cells (cs2.setIfInBounds t (.int .u8 32)) 5 fc)] := by simp [putB]
            rw [hpt] at hwr
            simp (maxDischargeDepth := 16) only [evN, ↓evP, simprocAttr, forall_const, nuE, fr.2, vbQi, fDigit_v, fInWord_v, aDig_v, aftV_v, fracV_v, frn_v, fallD_v, hund_v, hasS_v, cutL_v, cutS_v, idxP_v, cutI_v, cutV_v, ppV_v, hlt2, lt3, li3, wt, lz, hwr]
            have hnx : pre ++ ((c :: r).take d ++ (List.replicate (t + 1 - (i + d)) 32 ++ (c :: r).drop (t + 1 - i))) = (pre ++ ((c :: r).take d ++ (List.replicate (t - (i + d)) 32 ++ (c :: r).drop (t - i)))).set t 32 := by
              obtain ⟨y, z, hyz⟩ : ∃ y z, (c :: r).drop (t - i) = y :: z := by
                cases hq : (c :: r).drop (t - i) with
                | nil => have := congrArg List.length hq; simp at this; omega
                | cons y z => exact ⟨y, z, rfl⟩
              have hz : (c :: r).drop (t + 1 - i) = z := by rw [show t + 1 - i = (t - i) + 1 by omega, ← List.drop_drop, hyz]; rfl
              rw [hyz, hz, show t + 1 - (i + d) = (t - (i + d)) + 1 by omega, List.replicate_succ']
              rw [show pre ++ ((c :: r).take d ++ (List.replicate (t - (i + d)) 32 ++ y :: z)) = (pre ++ ((c :: r).take d ++ List.replicate (t - (i + d)) 32)) ++ y :: z by simp, set_mid _ _ _ _ _ (by simp; omega)]
              simp
            exact LoopA.weak (ihk (t + 1) (cs2.setIfInBounds t (.int .u8 32)) (by omega) (by omega) (by simpa using hz2) (by rw [hnx]; exact hr2.set t 32 32 rfl lz) (by omega)) (by simp only [subE, get_cons, Nat.reduceEqDiff, ↓reduceIte, reduceCtorEq, Nat.reduceAdd, and_self, and_true]) (SubA.refl _)
end Go.Proofs.YtfphceknmgadgaaDoor
