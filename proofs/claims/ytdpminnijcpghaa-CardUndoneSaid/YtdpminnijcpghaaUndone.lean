/-
CardUndone: the walk.
Conditions: the arguments fit their kinds.
-/
import Derived.Test.YtdpminnijcpghaaAwake
namespace Go.Proofs.Ytdpminnijcpghaa
open Go.Vm
set_option linter.unusedSimpArgs false
set_option linter.unusedVariables false
set_option maxHeartbeats 1000000
set_option maxRecDepth 20000

def U0 : CS := newC sampleS 255 200000 3
def U1 : CS := { U0 with st := 2 }
def U2 (d a : Int) : CS := { U1 with kn := true, da := d, su := a, co := 1 }
def U3 (d a b : Int) : CS := { U1 with kn := true, da := d, su := a + b, co := 2 }
theorem okU1 : U1.Ok := by constructor <;> simp [U1, U0, newC]
theorem okU2 {a d : Int} (ha : 0 ≤ a ∧ a ≤ 65535) (hd : 0 ≤ d ∧ d ≤ 255) : (U2 d a).Ok := by constructor <;> simp [U2, U1, U0, newC] <;> omega
theorem uE1 {a d : Int} (ha : 0 ≤ a ∧ a ≤ 65535) (hd : 0 ≤ d ∧ d ≤ 255) : useE U1 d a = 0 := by
  have h1 : ¬ 255 < d := by omega
  have h2 : d ≤ 99999 := by omega
  have h3 : a ≤ 999999999999 := by omega
  have h4 : ¬ 200000 < a := by omega
  simp [useE, usableF, dayC, U1, U0, newC, dateOk, amtOk, ha.1, hd.1, h1, h2, h3, h4]
theorem uC1 {a d : Int} (ha : 0 ≤ a ∧ a ≤ 65535) (hd : 0 ≤ d ∧ d ≤ 255) : useC U1 d a = U2 d a := by
  rw [useC, if_pos (uE1 ha hd)]
  simp [dayC, U2, U1, U0, newC]
theorem okU3 {a b d : Int} (ha : 0 ≤ a ∧ a ≤ 65535) (hb : 0 ≤ b ∧ b ≤ 65535) (hd : 0 ≤ d ∧ d ≤ 255) : (U3 d a b).Ok := by constructor <;> simp [U3, U1, U0, newC] <;> omega
theorem uE2 {a b d : Int} (ha : 0 ≤ a ∧ a ≤ 65535) (hb : 0 ≤ b ∧ b ≤ 65535) (hd : 0 ≤ d ∧ d ≤ 255) : useE (U2 d a) d b = 0 := by
  have h1 : ¬ 255 < d := by omega
  have h2 : d ≤ 99999 := by omega
  have h3 : b ≤ 999999999999 := by omega
  have h4 : ¬ 200000 < a + b := by omega
  simp [useE, usableF, dayC, U2, U1, U0, newC, dateOk, amtOk, ha.1, hb.1, hd.1, h1, h2, h3, h4]
theorem uC2 {a b d : Int} (ha : 0 ≤ a ∧ a ≤ 65535) (hb : 0 ≤ b ∧ b ≤ 65535) (hd : 0 ≤ d ∧ d ≤ 255) : useC (U2 d a) d b = U3 d a b := by
  rw [useC, if_pos (uE2 ha hb hd)]
  simp [dayC, U2, U3, U1, U0, newC]
theorem dE3 {a b d : Int} (ha : 0 ≤ a ∧ a ≤ 65535) (hb : 0 ≤ b ∧ b ≤ 65535) (hd : 0 ≤ d ∧ d ≤ 255) : undoE (U3 d a b) d b = 0 := by
  have h3 : b ≤ 999999999999 := by omega
  have h4 : ¬ a + b < b := by omega
  simp [undoE, U3, amtOk, hb.1, h3, h4]
theorem dC3 {a b d : Int} (ha : 0 ≤ a ∧ a ≤ 65535) (hb : 0 ≤ b ∧ b ≤ 65535) (hd : 0 ≤ d ∧ d ≤ 255) : undoC (U3 d a b) d b = U2 d a := by
  rw [undoC, if_pos (dE3 ha hb hd)]
  simp [U2, U3, U1, U0, newC]
theorem dE4 {a d : Int} (ha : 0 ≤ a ∧ a ≤ 65535) (hd : 0 ≤ d ∧ d ≤ 255) : undoE (U2 d a) (d + 1) 0 = 6 := by
  have h4 : ¬ d + 1 < d := by omega
  have h5 : d < d + 1 := by omega
  simp [undoE, U2, amtOk, h4, h5]
theorem dE5 {a d : Int} (ha : 0 ≤ a ∧ a ≤ 65535) (hd : 0 ≤ d ∧ d ≤ 255) : undoE (U2 d a) (d - 1) 0 = 14 := by
  have h4 : d - 1 < d := by omega
  simp [undoE, U2, amtOk, h4]
theorem dE6 {a b d : Int} (ha : 0 ≤ a ∧ a ≤ 65535) (hb : 0 ≤ b ∧ b ≤ 65535) (hd : 0 ≤ d ∧ d ≤ 255) : undoE (U3 d a b) d (a + b + 1) = 6 := by
  have h3 : a + b + 1 ≤ 999999999999 := by omega
  have h4 : a + b < a + b + 1 := by omega
  have h5 : 0 ≤ a + b + 1 := by omega
  simp [undoE, U3, amtOk, h5, h3, h4]

theorem undone_h (a b d : Int) (ha : 0 ≤ a ∧ a ≤ 65535) (hb : 0 ≤ b ∧ b ≤ 65535) (hd : 0 ≤ d ∧ d ≤ 255) (h : Heap) :
    CallsH Try.prog 5 #[.int .u16 a, .int .u16 b, .int .u8 d] h fun r h' => r = .returned (.bool true) ∧ Grew h h' := by
  have wa : IntKind.i64.wrap a = a := w_i64 (by omega) (by omega)
  have wb : IntKind.i64.wrap b = b := w_i64 (by omega) (by omega)
  have wd : IntKind.i64.wrap d = d := w_i64 (by omega) (by omega)
  have wab : IntKind.i64.wrap (a + b) = a + b := w_i64 (by omega) (by omega)
  have wab1 : IntKind.i64.wrap (a + b + 1) = a + b + 1 := w_i64 (by omega) (by omega)
  have wd1 : IntKind.i64.wrap (d + 1) = d + 1 := w_i64 (by omega) (by omega)
  have wd2 : IntKind.i64.wrap (d - 1) = d - 1 := w_i64 (by omega) (by omega)
  refine callsH_of_den ⟨Try.prog, 5, Try.f5, 121, [0, 1, 2, 6, 7, 8, 9, 10], _⟩ (args := [_, _, _]) Try.func5 rfl Try.ntmps5 (by simp) ?_
  simp only [argE_nil, argE_cons, ↓vmD, vmV, List.toList_toArray, ↓reduceIte, Nat.reduceAdd, Nat.reduceSub, Nat.reduceEqDiff, Nat.reduceLT, Nat.reduceLeDiff, reduceCtorEq, Option.some.injEq, Prod.mk.injEq, Bool.false_eq_true, Bool.true_eq_false, and_self, and_true, true_and, and_false, false_and, or_false, or_true, false_or, true_or, Bool.and_self, Bool.and_true, Bool.true_and, Bool.false_and, Bool.and_false, Bool.false_or, Bool.or_false, Bool.true_or, Bool.or_true, Bool.not_true, Bool.not_false, not_false_eq_true, not_true_eq_false, ne_eq, decide_true, decide_false, decide_eq_true_eq, forall_const, List.cons_append, List.nil_append, List.length_cons, List.length_nil, List.size_toArray, List.setIfInBounds_toArray, List.set_cons_zero, List.set_cons_succ, List.getElem?_toArray, List.getElem?_cons_zero, List.getElem?_cons_succ, List.extract_toArray, List.extract_eq_take_drop, List.drop_zero, List.drop_succ_cons, List.drop_nil, List.take_zero, List.take_succ_cons, List.take_nil, Nat.zero_add, Nat.add_zero, Int.reduceToNat, Int.reduceLT, Int.reduceLE, Int.reduceEq, Int.reduceNeg, Int.reduceBEq, Int.reduceBNe, Array.size_push, Int.natCast_nonneg, Int.toNat_natCast, beq_false, beq_true, bne_self_eq_false, beq_self_eq_true, Bool.not_eq_false', beq_eq_false_iff_ne, String.reduceEq, Int.lt_irrefl, Nat.lt_irrefl, getP, getS, setP, setS, sizeS, Nat.left_eq_add, Nat.add_eq_left, Nat.add_right_cancel_iff, Nat.add_left_cancel_iff, Nat.lt_add_one, Nat.succ_ne_self, Nat.one_ne_zero,  nil_str, Option.isNone_some, Option.isNone_none, Option.isSome_some, Option.isSome_none, Bool.not_eq_true', decide_eq_false_iff_not, Bool.or_eq_true, Bool.and_eq_true, beq_iff_eq, bne_iff_ne, tyS, wa, wb, wd, wab, wab1, wd1, wd2]
  refine (new_h sampleS 255 200000 3 h).mono ?_
  have e0 : newE sampleS 255 200000 3 = 0 := by simp [newE, chk_sample, dateOk, amtOk]
  rintro _ h1 (⟨-, p, hp, rfl, hc, g1, -⟩ | ⟨hn, -⟩)
  rotate_left
  · exact absurd e0 hn
  simp only [argE_nil, argE_cons, ↓vmD, vmV, List.toList_toArray, ↓reduceIte, Nat.reduceAdd, Nat.reduceSub, Nat.reduceEqDiff, Nat.reduceLT, Nat.reduceLeDiff, reduceCtorEq, Option.some.injEq, Prod.mk.injEq, Bool.false_eq_true, Bool.true_eq_false, and_self, and_true, true_and, and_false, false_and, or_false, or_true, false_or, true_or, Bool.and_self, Bool.and_true, Bool.true_and, Bool.false_and, Bool.and_false, Bool.false_or, Bool.or_false, Bool.true_or, Bool.or_true, Bool.not_true, Bool.not_false, not_false_eq_true, not_true_eq_false, ne_eq, decide_true, decide_false, decide_eq_true_eq, forall_const, List.cons_append, List.nil_append, List.length_cons, List.length_nil, List.size_toArray, List.setIfInBounds_toArray, List.set_cons_zero, List.set_cons_succ, List.getElem?_toArray, List.getElem?_cons_zero, List.getElem?_cons_succ, List.extract_toArray, List.extract_eq_take_drop, List.drop_zero, List.drop_succ_cons, List.drop_nil, List.take_zero, List.take_succ_cons, List.take_nil, Nat.zero_add, Nat.add_zero, Int.reduceToNat, Int.reduceLT, Int.reduceLE, Int.reduceEq, Int.reduceNeg, Int.reduceBEq, Int.reduceBNe, Array.size_push, Int.natCast_nonneg, Int.toNat_natCast, beq_false, beq_true, bne_self_eq_false, beq_self_eq_true, Bool.not_eq_false', beq_eq_false_iff_ne, String.reduceEq, Int.lt_irrefl, Nat.lt_irrefl, getP, getS, setP, setS, sizeS, Nat.left_eq_add, Nat.add_eq_left, Nat.add_right_cancel_iff, Nat.add_left_cancel_iff, Nat.lt_add_one, Nat.succ_ne_self, Nat.one_ne_zero,  nil_str, Option.isNone_some, Option.isNone_none, Option.isSome_some, Option.isSome_none, Bool.not_eq_true', decide_eq_false_iff_not, Bool.or_eq_true, Bool.and_eq_true, beq_iff_eq, bne_iff_ne, tyS, wa, wb, wd, wab, wab1, wd1, wd2]
  refine (do_h p U0 1 h1 hc).mono ?_
  rintro _ h2 ⟨rfl, hq⟩
  rw [show doC U0 1 = U1 from rfl] at hq
  rw [show (nextF U0.st 1).2 = 0 from rfl]
  replace hc := got (lt_of_get hc) U1.obj
  replace g1 := g1.set hp U1.obj
  rw [← hq] at hc g1
  clear hq
  simp only [argE_nil, argE_cons, ↓vmD, vmV, List.toList_toArray, ↓reduceIte, Nat.reduceAdd, Nat.reduceSub, Nat.reduceEqDiff, Nat.reduceLT, Nat.reduceLeDiff, reduceCtorEq, Option.some.injEq, Prod.mk.injEq, Bool.false_eq_true, Bool.true_eq_false, and_self, and_true, true_and, and_false, false_and, or_false, or_true, false_or, true_or, Bool.and_self, Bool.and_true, Bool.true_and, Bool.false_and, Bool.and_false, Bool.false_or, Bool.or_false, Bool.true_or, Bool.or_true, Bool.not_true, Bool.not_false, not_false_eq_true, not_true_eq_false, ne_eq, decide_true, decide_false, decide_eq_true_eq, forall_const, List.cons_append, List.nil_append, List.length_cons, List.length_nil, List.size_toArray, List.setIfInBounds_toArray, List.set_cons_zero, List.set_cons_succ, List.getElem?_toArray, List.getElem?_cons_zero, List.getElem?_cons_succ, List.extract_toArray, List.extract_eq_take_drop, List.drop_zero, List.drop_succ_cons, List.drop_nil, List.take_zero, List.take_succ_cons, List.take_nil, Nat.zero_add, Nat.add_zero, Int.reduceToNat, Int.reduceLT, Int.reduceLE, Int.reduceEq, Int.reduceNeg, Int.reduceBEq, Int.reduceBNe, Array.size_push, Int.natCast_nonneg, Int.toNat_natCast, beq_false, beq_true, bne_self_eq_false, beq_self_eq_true, Bool.not_eq_false', beq_eq_false_iff_ne, String.reduceEq, Int.lt_irrefl, Nat.lt_irrefl, getP, getS, setP, setS, sizeS, Nat.left_eq_add, Nat.add_eq_left, Nat.add_right_cancel_iff, Nat.add_left_cancel_iff, Nat.lt_add_one, Nat.succ_ne_self, Nat.one_ne_zero,  nil_str, Option.isNone_some, Option.isNone_none, Option.isSome_some, Option.isSome_none, Bool.not_eq_true', decide_eq_false_iff_not, Bool.or_eq_true, Bool.and_eq_true, beq_iff_eq, bne_iff_ne, tyS, wa, wb, wd, wab, wab1, wd1, wd2]
  refine (use_h p U1 d a h2 hc okU1).mono ?_
  rintro _ h3 ⟨rfl, gg⟩
  rw [uE1 ha hd]
  rw [uC1 ha hd] at gg
  replace hc := gg.get (got (lt_of_get hc) _)
  replace g1 := (g1.set hp _).trans gg
  clear gg
  simp only [argE_nil, argE_cons, ↓vmD, vmV, List.toList_toArray, ↓reduceIte, Nat.reduceAdd, Nat.reduceSub, Nat.reduceEqDiff, Nat.reduceLT, Nat.reduceLeDiff, reduceCtorEq, Option.some.injEq, Prod.mk.injEq, Bool.false_eq_true, Bool.true_eq_false, and_self, and_true, true_and, and_false, false_and, or_false, or_true, false_or, true_or, Bool.and_self, Bool.and_true, Bool.true_and, Bool.false_and, Bool.and_false, Bool.false_or, Bool.or_false, Bool.true_or, Bool.or_true, Bool.not_true, Bool.not_false, not_false_eq_true, not_true_eq_false, ne_eq, decide_true, decide_false, decide_eq_true_eq, forall_const, List.cons_append, List.nil_append, List.length_cons, List.length_nil, List.size_toArray, List.setIfInBounds_toArray, List.set_cons_zero, List.set_cons_succ, List.getElem?_toArray, List.getElem?_cons_zero, List.getElem?_cons_succ, List.extract_toArray, List.extract_eq_take_drop, List.drop_zero, List.drop_succ_cons, List.drop_nil, List.take_zero, List.take_succ_cons, List.take_nil, Nat.zero_add, Nat.add_zero, Int.reduceToNat, Int.reduceLT, Int.reduceLE, Int.reduceEq, Int.reduceNeg, Int.reduceBEq, Int.reduceBNe, Array.size_push, Int.natCast_nonneg, Int.toNat_natCast, beq_false, beq_true, bne_self_eq_false, beq_self_eq_true, Bool.not_eq_false', beq_eq_false_iff_ne, String.reduceEq, Int.lt_irrefl, Nat.lt_irrefl, getP, getS, setP, setS, sizeS, Nat.left_eq_add, Nat.add_eq_left, Nat.add_right_cancel_iff, Nat.add_left_cancel_iff, Nat.lt_add_one, Nat.succ_ne_self, Nat.one_ne_zero,  nil_str, Option.isNone_some, Option.isNone_none, Option.isSome_some, Option.isSome_none, Bool.not_eq_true', decide_eq_false_iff_not, Bool.or_eq_true, Bool.and_eq_true, beq_iff_eq, bne_iff_ne, tyS, wa, wb, wd, wab, wab1, wd1, wd2]
  refine (use_h p (U2 d a) d b h3 hc (okU2 ha hd)).mono ?_
  rintro _ h4 ⟨rfl, gg⟩
  rw [uE2 ha hb hd]
  rw [uC2 ha hb hd] at gg
  replace hc := gg.get (got (lt_of_get hc) _)
  replace g1 := (g1.set hp _).trans gg
  clear gg
  simp only [argE_nil, argE_cons, ↓vmD, vmV, List.toList_toArray, ↓reduceIte, Nat.reduceAdd, Nat.reduceSub, Nat.reduceEqDiff, Nat.reduceLT, Nat.reduceLeDiff, reduceCtorEq, Option.some.injEq, Prod.mk.injEq, Bool.false_eq_true, Bool.true_eq_false, and_self, and_true, true_and, and_false, false_and, or_false, or_true, false_or, true_or, Bool.and_self, Bool.and_true, Bool.true_and, Bool.false_and, Bool.and_false, Bool.false_or, Bool.or_false, Bool.true_or, Bool.or_true, Bool.not_true, Bool.not_false, not_false_eq_true, not_true_eq_false, ne_eq, decide_true, decide_false, decide_eq_true_eq, forall_const, List.cons_append, List.nil_append, List.length_cons, List.length_nil, List.size_toArray, List.setIfInBounds_toArray, List.set_cons_zero, List.set_cons_succ, List.getElem?_toArray, List.getElem?_cons_zero, List.getElem?_cons_succ, List.extract_toArray, List.extract_eq_take_drop, List.drop_zero, List.drop_succ_cons, List.drop_nil, List.take_zero, List.take_succ_cons, List.take_nil, Nat.zero_add, Nat.add_zero, Int.reduceToNat, Int.reduceLT, Int.reduceLE, Int.reduceEq, Int.reduceNeg, Int.reduceBEq, Int.reduceBNe, Array.size_push, Int.natCast_nonneg, Int.toNat_natCast, beq_false, beq_true, bne_self_eq_false, beq_self_eq_true, Bool.not_eq_false', beq_eq_false_iff_ne, String.reduceEq, Int.lt_irrefl, Nat.lt_irrefl, getP, getS, setP, setS, sizeS, Nat.left_eq_add, Nat.add_eq_left, Nat.add_right_cancel_iff, Nat.add_left_cancel_iff, Nat.lt_add_one, Nat.succ_ne_self, Nat.one_ne_zero,  nil_str, Option.isNone_some, Option.isNone_none, Option.isSome_some, Option.isSome_none, Bool.not_eq_true', decide_eq_false_iff_not, Bool.or_eq_true, Bool.and_eq_true, beq_iff_eq, bne_iff_ne, tyS, wa, wb, wd, wab, wab1, wd1, wd2]
  refine (used_h p (U3 d a b) d h4 hc (okU3 ha hb hd)).mono ?_
  rintro _ h5 ⟨rfl, rfl⟩
  rw [show usedS (U3 d a b) d = a + b by simp [usedS, U3], show usedN (U3 d a b) d = 2 by simp [usedN, U3]]
  simp only [argE_nil, argE_cons, ↓vmD, vmV, List.toList_toArray, ↓reduceIte, Nat.reduceAdd, Nat.reduceSub, Nat.reduceEqDiff, Nat.reduceLT, Nat.reduceLeDiff, reduceCtorEq, Option.some.injEq, Prod.mk.injEq, Bool.false_eq_true, Bool.true_eq_false, and_self, and_true, true_and, and_false, false_and, or_false, or_true, false_or, true_or, Bool.and_self, Bool.and_true, Bool.true_and, Bool.false_and, Bool.and_false, Bool.false_or, Bool.or_false, Bool.true_or, Bool.or_true, Bool.not_true, Bool.not_false, not_false_eq_true, not_true_eq_false, ne_eq, decide_true, decide_false, decide_eq_true_eq, forall_const, List.cons_append, List.nil_append, List.length_cons, List.length_nil, List.size_toArray, List.setIfInBounds_toArray, List.set_cons_zero, List.set_cons_succ, List.getElem?_toArray, List.getElem?_cons_zero, List.getElem?_cons_succ, List.extract_toArray, List.extract_eq_take_drop, List.drop_zero, List.drop_succ_cons, List.drop_nil, List.take_zero, List.take_succ_cons, List.take_nil, Nat.zero_add, Nat.add_zero, Int.reduceToNat, Int.reduceLT, Int.reduceLE, Int.reduceEq, Int.reduceNeg, Int.reduceBEq, Int.reduceBNe, Array.size_push, Int.natCast_nonneg, Int.toNat_natCast, beq_false, beq_true, bne_self_eq_false, beq_self_eq_true, Bool.not_eq_false', beq_eq_false_iff_ne, String.reduceEq, Int.lt_irrefl, Nat.lt_irrefl, getP, getS, setP, setS, sizeS, Nat.left_eq_add, Nat.add_eq_left, Nat.add_right_cancel_iff, Nat.add_left_cancel_iff, Nat.lt_add_one, Nat.succ_ne_self, Nat.one_ne_zero,  nil_str, Option.isNone_some, Option.isNone_none, Option.isSome_some, Option.isSome_none, Bool.not_eq_true', decide_eq_false_iff_not, Bool.or_eq_true, Bool.and_eq_true, beq_iff_eq, bne_iff_ne, tyS, wa, wb, wd, wab, wab1, wd1, wd2]
  refine (undo_h p (U3 d a b) d b h5 hc (okU3 ha hb hd)).mono ?_
  rintro _ h6 ⟨rfl, hq⟩
  rw [dE3 ha hb hd]
  rw [dC3 ha hb hd] at hq
  have hc0 := hc
  have g0 := g1
  replace hc := got (lt_of_get hc) (U2 d a).obj
  replace g1 := g1.set hp (U2 d a).obj
  rw [← hq] at hc g1
  clear hq
  simp only [argE_nil, argE_cons, ↓vmD, vmV, List.toList_toArray, ↓reduceIte, Nat.reduceAdd, Nat.reduceSub, Nat.reduceEqDiff, Nat.reduceLT, Nat.reduceLeDiff, reduceCtorEq, Option.some.injEq, Prod.mk.injEq, Bool.false_eq_true, Bool.true_eq_false, and_self, and_true, true_and, and_false, false_and, or_false, or_true, false_or, true_or, Bool.and_self, Bool.and_true, Bool.true_and, Bool.false_and, Bool.and_false, Bool.false_or, Bool.or_false, Bool.true_or, Bool.or_true, Bool.not_true, Bool.not_false, not_false_eq_true, not_true_eq_false, ne_eq, decide_true, decide_false, decide_eq_true_eq, forall_const, List.cons_append, List.nil_append, List.length_cons, List.length_nil, List.size_toArray, List.setIfInBounds_toArray, List.set_cons_zero, List.set_cons_succ, List.getElem?_toArray, List.getElem?_cons_zero, List.getElem?_cons_succ, List.extract_toArray, List.extract_eq_take_drop, List.drop_zero, List.drop_succ_cons, List.drop_nil, List.take_zero, List.take_succ_cons, List.take_nil, Nat.zero_add, Nat.add_zero, Int.reduceToNat, Int.reduceLT, Int.reduceLE, Int.reduceEq, Int.reduceNeg, Int.reduceBEq, Int.reduceBNe, Array.size_push, Int.natCast_nonneg, Int.toNat_natCast, beq_false, beq_true, bne_self_eq_false, beq_self_eq_true, Bool.not_eq_false', beq_eq_false_iff_ne, String.reduceEq, Int.lt_irrefl, Nat.lt_irrefl, getP, getS, setP, setS, sizeS, Nat.left_eq_add, Nat.add_eq_left, Nat.add_right_cancel_iff, Nat.add_left_cancel_iff, Nat.lt_add_one, Nat.succ_ne_self, Nat.one_ne_zero,  nil_str, Option.isNone_some, Option.isNone_none, Option.isSome_some, Option.isSome_none, Bool.not_eq_true', decide_eq_false_iff_not, Bool.or_eq_true, Bool.and_eq_true, beq_iff_eq, bne_iff_ne, tyS, wa, wb, wd, wab, wab1, wd1, wd2]
  refine (used_h p (U2 d a) d h6 hc (okU2 ha hd)).mono ?_
  rintro _ h7 ⟨rfl, rfl⟩
  rw [show usedS (U2 d a) d = a by simp [usedS, U2], show usedN (U2 d a) d = 1 by simp [usedN, U2]]
  simp only [argE_nil, argE_cons, ↓vmD, vmV, List.toList_toArray, ↓reduceIte, Nat.reduceAdd, Nat.reduceSub, Nat.reduceEqDiff, Nat.reduceLT, Nat.reduceLeDiff, reduceCtorEq, Option.some.injEq, Prod.mk.injEq, Bool.false_eq_true, Bool.true_eq_false, and_self, and_true, true_and, and_false, false_and, or_false, or_true, false_or, true_or, Bool.and_self, Bool.and_true, Bool.true_and, Bool.false_and, Bool.and_false, Bool.false_or, Bool.or_false, Bool.true_or, Bool.or_true, Bool.not_true, Bool.not_false, not_false_eq_true, not_true_eq_false, ne_eq, decide_true, decide_false, decide_eq_true_eq, forall_const, List.cons_append, List.nil_append, List.length_cons, List.length_nil, List.size_toArray, List.setIfInBounds_toArray, List.set_cons_zero, List.set_cons_succ, List.getElem?_toArray, List.getElem?_cons_zero, List.getElem?_cons_succ, List.extract_toArray, List.extract_eq_take_drop, List.drop_zero, List.drop_succ_cons, List.drop_nil, List.take_zero, List.take_succ_cons, List.take_nil, Nat.zero_add, Nat.add_zero, Int.reduceToNat, Int.reduceLT, Int.reduceLE, Int.reduceEq, Int.reduceNeg, Int.reduceBEq, Int.reduceBNe, Array.size_push, Int.natCast_nonneg, Int.toNat_natCast, beq_false, beq_true, bne_self_eq_false, beq_self_eq_true, Bool.not_eq_false', beq_eq_false_iff_ne, String.reduceEq, Int.lt_irrefl, Nat.lt_irrefl, getP, getS, setP, setS, sizeS, Nat.left_eq_add, Nat.add_eq_left, Nat.add_right_cancel_iff, Nat.add_left_cancel_iff, Nat.lt_add_one, Nat.succ_ne_self, Nat.one_ne_zero,  nil_str, Option.isNone_some, Option.isNone_none, Option.isSome_some, Option.isSome_none, Bool.not_eq_true', decide_eq_false_iff_not, Bool.or_eq_true, Bool.and_eq_true, beq_iff_eq, bne_iff_ne, tyS, wa, wb, wd, wab, wab1, wd1, wd2]
  refine (undo_h p (U2 d a) (d + 1) 0 h7 hc (okU2 ha hd)).mono ?_
  rintro _ h8 ⟨rfl, hq⟩
  rw [undoC, dE4 ha hd, if_neg (by decide), set_get hc] at hq
  rw [dE4 ha hd]
  subst hq
  simp only [argE_nil, argE_cons, ↓vmD, vmV, List.toList_toArray, ↓reduceIte, Nat.reduceAdd, Nat.reduceSub, Nat.reduceEqDiff, Nat.reduceLT, Nat.reduceLeDiff, reduceCtorEq, Option.some.injEq, Prod.mk.injEq, Bool.false_eq_true, Bool.true_eq_false, and_self, and_true, true_and, and_false, false_and, or_false, or_true, false_or, true_or, Bool.and_self, Bool.and_true, Bool.true_and, Bool.false_and, Bool.and_false, Bool.false_or, Bool.or_false, Bool.true_or, Bool.or_true, Bool.not_true, Bool.not_false, not_false_eq_true, not_true_eq_false, ne_eq, decide_true, decide_false, decide_eq_true_eq, forall_const, List.cons_append, List.nil_append, List.length_cons, List.length_nil, List.size_toArray, List.setIfInBounds_toArray, List.set_cons_zero, List.set_cons_succ, List.getElem?_toArray, List.getElem?_cons_zero, List.getElem?_cons_succ, List.extract_toArray, List.extract_eq_take_drop, List.drop_zero, List.drop_succ_cons, List.drop_nil, List.take_zero, List.take_succ_cons, List.take_nil, Nat.zero_add, Nat.add_zero, Int.reduceToNat, Int.reduceLT, Int.reduceLE, Int.reduceEq, Int.reduceNeg, Int.reduceBEq, Int.reduceBNe, Array.size_push, Int.natCast_nonneg, Int.toNat_natCast, beq_false, beq_true, bne_self_eq_false, beq_self_eq_true, Bool.not_eq_false', beq_eq_false_iff_ne, String.reduceEq, Int.lt_irrefl, Nat.lt_irrefl, getP, getS, setP, setS, sizeS, Nat.left_eq_add, Nat.add_eq_left, Nat.add_right_cancel_iff, Nat.add_left_cancel_iff, Nat.lt_add_one, Nat.succ_ne_self, Nat.one_ne_zero,  nil_str, Option.isNone_some, Option.isNone_none, Option.isSome_some, Option.isSome_none, Bool.not_eq_true', decide_eq_false_iff_not, Bool.or_eq_true, Bool.and_eq_true, beq_iff_eq, bne_iff_ne, tyS, wa, wb, wd, wab, wab1, wd1, wd2]
  refine (undo_h p (U2 d a) (d - 1) 0 h8 hc (okU2 ha hd)).mono ?_
  rintro _ h9 ⟨rfl, hq⟩
  rw [undoC, dE5 ha hd, if_neg (by decide), set_get hc] at hq
  rw [dE5 ha hd]
  subst hq
  simp only [argE_nil, argE_cons, ↓vmD, vmV, List.toList_toArray, ↓reduceIte, Nat.reduceAdd, Nat.reduceSub, Nat.reduceEqDiff, Nat.reduceLT, Nat.reduceLeDiff, reduceCtorEq, Option.some.injEq, Prod.mk.injEq, Bool.false_eq_true, Bool.true_eq_false, and_self, and_true, true_and, and_false, false_and, or_false, or_true, false_or, true_or, Bool.and_self, Bool.and_true, Bool.true_and, Bool.false_and, Bool.and_false, Bool.false_or, Bool.or_false, Bool.true_or, Bool.or_true, Bool.not_true, Bool.not_false, not_false_eq_true, not_true_eq_false, ne_eq, decide_true, decide_false, decide_eq_true_eq, forall_const, List.cons_append, List.nil_append, List.length_cons, List.length_nil, List.size_toArray, List.setIfInBounds_toArray, List.set_cons_zero, List.set_cons_succ, List.getElem?_toArray, List.getElem?_cons_zero, List.getElem?_cons_succ, List.extract_toArray, List.extract_eq_take_drop, List.drop_zero, List.drop_succ_cons, List.drop_nil, List.take_zero, List.take_succ_cons, List.take_nil, Nat.zero_add, Nat.add_zero, Int.reduceToNat, Int.reduceLT, Int.reduceLE, Int.reduceEq, Int.reduceNeg, Int.reduceBEq, Int.reduceBNe, Array.size_push, Int.natCast_nonneg, Int.toNat_natCast, beq_false, beq_true, bne_self_eq_false, beq_self_eq_true, Bool.not_eq_false', beq_eq_false_iff_ne, String.reduceEq, Int.lt_irrefl, Nat.lt_irrefl, getP, getS, setP, setS, sizeS, Nat.left_eq_add, Nat.add_eq_left, Nat.add_right_cancel_iff, Nat.add_left_cancel_iff, Nat.lt_add_one, Nat.succ_ne_self, Nat.one_ne_zero,  nil_str, Option.isNone_some, Option.isNone_none, Option.isSome_some, Option.isSome_none, Bool.not_eq_true', decide_eq_false_iff_not, Bool.or_eq_true, Bool.and_eq_true, beq_iff_eq, bne_iff_ne, tyS, wa, wb, wd, wab, wab1, wd1, wd2]
  refine (use_h p (U2 d a) d b h9 hc (okU2 ha hd)).mono ?_
  rintro _ k1 ⟨rfl, gg⟩
  rw [uE2 ha hb hd]
  rw [uC2 ha hb hd] at gg
  replace hc := gg.get (got (lt_of_get hc) _)
  replace g1 := (g1.set hp _).trans gg
  clear gg
  simp only [argE_nil, argE_cons, ↓vmD, vmV, List.toList_toArray, ↓reduceIte, Nat.reduceAdd, Nat.reduceSub, Nat.reduceEqDiff, Nat.reduceLT, Nat.reduceLeDiff, reduceCtorEq, Option.some.injEq, Prod.mk.injEq, Bool.false_eq_true, Bool.true_eq_false, and_self, and_true, true_and, and_false, false_and, or_false, or_true, false_or, true_or, Bool.and_self, Bool.and_true, Bool.true_and, Bool.false_and, Bool.and_false, Bool.false_or, Bool.or_false, Bool.true_or, Bool.or_true, Bool.not_true, Bool.not_false, not_false_eq_true, not_true_eq_false, ne_eq, decide_true, decide_false, decide_eq_true_eq, forall_const, List.cons_append, List.nil_append, List.length_cons, List.length_nil, List.size_toArray, List.setIfInBounds_toArray, List.set_cons_zero, List.set_cons_succ, List.getElem?_toArray, List.getElem?_cons_zero, List.getElem?_cons_succ, List.extract_toArray, List.extract_eq_take_drop, List.drop_zero, List.drop_succ_cons, List.drop_nil, List.take_zero, List.take_succ_cons, List.take_nil, Nat.zero_add, Nat.add_zero, Int.reduceToNat, Int.reduceLT, Int.reduceLE, Int.reduceEq, Int.reduceNeg, Int.reduceBEq, Int.reduceBNe, Array.size_push, Int.natCast_nonneg, Int.toNat_natCast, beq_false, beq_true, bne_self_eq_false, beq_self_eq_true, Bool.not_eq_false', beq_eq_false_iff_ne, String.reduceEq, Int.lt_irrefl, Nat.lt_irrefl, getP, getS, setP, setS, sizeS, Nat.left_eq_add, Nat.add_eq_left, Nat.add_right_cancel_iff, Nat.add_left_cancel_iff, Nat.lt_add_one, Nat.succ_ne_self, Nat.one_ne_zero,  nil_str, Option.isNone_some, Option.isNone_none, Option.isSome_some, Option.isSome_none, Bool.not_eq_true', decide_eq_false_iff_not, Bool.or_eq_true, Bool.and_eq_true, beq_iff_eq, bne_iff_ne, tyS, wa, wb, wd, wab, wab1, wd1, wd2]
  refine (undo_h p (U3 d a b) d (a + b + 1) k1 hc (okU3 ha hb hd)).mono ?_
  rintro _ k2 ⟨rfl, hq⟩
  rw [undoC, dE6 ha hb hd, if_neg (by decide), set_get hc] at hq
  rw [dE6 ha hb hd]
  subst hq
  simp only [argE_nil, argE_cons, ↓vmD, vmV, List.toList_toArray, ↓reduceIte, Nat.reduceAdd, Nat.reduceSub, Nat.reduceEqDiff, Nat.reduceLT, Nat.reduceLeDiff, reduceCtorEq, Option.some.injEq, Prod.mk.injEq, Bool.false_eq_true, Bool.true_eq_false, and_self, and_true, true_and, and_false, false_and, or_false, or_true, false_or, true_or, Bool.and_self, Bool.and_true, Bool.true_and, Bool.false_and, Bool.and_false, Bool.false_or, Bool.or_false, Bool.true_or, Bool.or_true, Bool.not_true, Bool.not_false, not_false_eq_true, not_true_eq_false, ne_eq, decide_true, decide_false, decide_eq_true_eq, forall_const, List.cons_append, List.nil_append, List.length_cons, List.length_nil, List.size_toArray, List.setIfInBounds_toArray, List.set_cons_zero, List.set_cons_succ, List.getElem?_toArray, List.getElem?_cons_zero, List.getElem?_cons_succ, List.extract_toArray, List.extract_eq_take_drop, List.drop_zero, List.drop_succ_cons, List.drop_nil, List.take_zero, List.take_succ_cons, List.take_nil, Nat.zero_add, Nat.add_zero, Int.reduceToNat, Int.reduceLT, Int.reduceLE, Int.reduceEq, Int.reduceNeg, Int.reduceBEq, Int.reduceBNe, Array.size_push, Int.natCast_nonneg, Int.toNat_natCast, beq_false, beq_true, bne_self_eq_false, beq_self_eq_true, Bool.not_eq_false', beq_eq_false_iff_ne, String.reduceEq, Int.lt_irrefl, Nat.lt_irrefl, getP, getS, setP, setS, sizeS, Nat.left_eq_add, Nat.add_eq_left, Nat.add_right_cancel_iff, Nat.add_left_cancel_iff, Nat.lt_add_one, Nat.succ_ne_self, Nat.one_ne_zero,  nil_str, Option.isNone_some, Option.isNone_none, Option.isSome_some, Option.isSome_none, Bool.not_eq_true', decide_eq_false_iff_not, Bool.or_eq_true, Bool.and_eq_true, beq_iff_eq, bne_iff_ne, tyS]
  refine (awake_h k2).mono ?_
  rintro _ k3 ⟨rfl, gg⟩
  simp only [argE_nil, argE_cons, ↓vmD, vmV, List.toList_toArray, ↓reduceIte, Nat.reduceAdd, Nat.reduceSub, Nat.reduceEqDiff, Nat.reduceLT, Nat.reduceLeDiff, reduceCtorEq, Option.some.injEq, Prod.mk.injEq, Bool.false_eq_true, Bool.true_eq_false, and_self, and_true, true_and, and_false, false_and, or_false, or_true, false_or, true_or, Bool.and_self, Bool.and_true, Bool.true_and, Bool.false_and, Bool.and_false, Bool.false_or, Bool.or_false, Bool.true_or, Bool.or_true, Bool.not_true, Bool.not_false, not_false_eq_true, not_true_eq_false, ne_eq, decide_true, decide_false, decide_eq_true_eq, forall_const, List.cons_append, List.nil_append, List.length_cons, List.length_nil, List.size_toArray, List.setIfInBounds_toArray, List.set_cons_zero, List.set_cons_succ, List.getElem?_toArray, List.getElem?_cons_zero, List.getElem?_cons_succ, List.extract_toArray, List.extract_eq_take_drop, List.drop_zero, List.drop_succ_cons, List.drop_nil, List.take_zero, List.take_succ_cons, List.take_nil, Nat.zero_add, Nat.add_zero, Int.reduceToNat, Int.reduceLT, Int.reduceLE, Int.reduceEq, Int.reduceNeg, Int.reduceBEq, Int.reduceBNe, Array.size_push, Int.natCast_nonneg, Int.toNat_natCast, beq_false, beq_true, bne_self_eq_false, beq_self_eq_true, Bool.not_eq_false', beq_eq_false_iff_ne, String.reduceEq, Int.lt_irrefl, Nat.lt_irrefl, getP, getS, setP, setS, sizeS, Nat.left_eq_add, Nat.add_eq_left, Nat.add_right_cancel_iff, Nat.add_left_cancel_iff, Nat.lt_add_one, Nat.succ_ne_self, Nat.one_ne_zero,  nil_str, Option.isNone_some, Option.isNone_none, Option.isSome_some, Option.isSome_none, Bool.not_eq_true', decide_eq_false_iff_not, Bool.or_eq_true, Bool.and_eq_true, beq_iff_eq, bne_iff_ne, tyS]
  exact g1.trans gg
theorem undone_w (a : Int) (wa : (Lit.int .u16 a).wf = true) (b : Int) (wb : (Lit.int .u16 b).wf = true) (d : Int) (wd : (Lit.int .u8 d).wf = true) (h : Heap) :
    CallsH Try.prog 5 #[.int .u16 a, .int .u16 b, .int .u8 d] h fun r h' => r = .returned (.bool true) ∧ Grew h h' := by
  simp [Lit.wf, IntKind.min, IntKind.max, IntKind.bits, IntKind.signed] at wa wb wd
  exact undone_h a b d (by omega) (by omega) (by omega) h
end Go.Proofs.Ytdpminnijcpghaa
