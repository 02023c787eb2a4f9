/-
CardLimits: the walk.
Conditions: the argument's cells hold steps.
-/
import Derived.Test.YtdpminnijcpghaaClosed
namespace Go.Proofs.Ytdpminnijcpghaa
open Go.Vm
set_option linter.unusedSimpArgs false
set_option linter.unusedVariables false
set_option maxHeartbeats 1000000
set_option maxRecDepth 20000

theorem and_b (a : Int) (m : Nat) (hm : m < 2 ^ 63) : 0 ≤ IntKind.i64.wrap ((BitVec.ofInt IntKind.i64.bits a &&& BitVec.ofInt IntKind.i64.bits (m : Int)).toNat : Nat) ∧ IntKind.i64.wrap ((BitVec.ofInt IntKind.i64.bits a &&& BitVec.ofInt IntKind.i64.bits (m : Int)).toNat : Nat) ≤ m := by
  have h1 : (BitVec.ofInt IntKind.i64.bits a &&& BitVec.ofInt IntKind.i64.bits (m : Int)).toNat ≤ m := by
    rw [BitVec.toNat_and]
    refine Nat.le_trans Nat.and_le_right ?_
    show (BitVec.ofInt 64 (m : Int)).toNat ≤ m
    rw [BitVec.toNat_ofInt]
    omega
  rw [w_i64 (by omega) (by omega)]
  omega
structure LInv (c : CS) (L K day sum n : Int) : Prop where
  ok : c.Ok
  ex : c.exp = 1000
  st : c.st = 2
  am : c.am = L
  cn : c.cn = K
  da : c.da ≤ day
  su : usedS c day = sum
  co : usedN c day = n
theorem LInv.next {c : CS} {L K day sum n δ : Int} (v : LInv c L K day sum n) (hδ : 0 < δ) : LInv c L K (day + δ) 0 0 := by
  have := v.da
  have h1 : c.da ≠ day + δ := by omega
  exact ⟨v.ok, v.ex, v.st, v.am, v.cn, by omega, by simp [usedS, h1], by simp [usedN, h1]⟩
theorem LInv.day {c : CS} {L K day sum n : Int} (v : LInv c L K day sum n) : (dayC c day).su = sum ∧ (dayC c day).co = n ∧ (dayC c day).da = day ∧ (dayC c day).kn = true ∧ (dayC c day).exp = 1000 ∧ (dayC c day).st = 2 ∧ (dayC c day).am = L ∧ (dayC c day).cn = K := by
  have h1 := v.da; have h2 := v.su; have h3 := v.co; have h4 := v.ex; have h5 := v.st; have h6 := v.am; have h7 := v.cn
  unfold dayC usedS usedN at *
  cases hk : c.kn with
  | false => simp_all
  | true =>
    by_cases h : c.da < day
    · have : c.da ≠ day := by omega
      simp_all
    · have : c.da = day := by omega
      simp_all
theorem LInv.use {c : CS} {L K day sum n x : Int} (v : LInv c L K day sum n) (hd : 0 ≤ day ∧ day ≤ 1000) (hx : 0 ≤ x ∧ x ≤ 255) :
    useE c day x = (if L < sum + x ∨ K < n + 1 then 10 else 0) := by
  obtain ⟨e1, e2, e3, e4, e5, e6, e7, e8⟩ := v.day
  have h4 := v.ex; have h5 := v.st; have h6 := v.am; have h7 := v.cn
  have h8 : ¬ 1000 < day := by omega
  have h9 : day ≤ 99999 := by omega
  have h10 : x ≤ 999999999999 := by omega
  simp [useE, usableF, h5, dateOk, hd.1, h9, h4, h8, amtOk, hx.1, h10, e1, e2, e3, h6, h7]
theorem LInv.used {c : CS} {L K day sum n x : Int} (v : LInv c L K day sum n) (hd : 0 ≤ day ∧ day ≤ 1000) (hx : 0 ≤ x ∧ x ≤ 255) (h0 : ¬ (L < sum + x ∨ K < n + 1)) :
    LInv (useC c day x) L K day (sum + x) (n + 1) := by
  obtain ⟨e1, e2, e3, e4, e5, e6, e7, e8⟩ := v.day
  have hu := v.use hd hx
  rw [if_neg h0] at hu
  have ok := v.ok
  have a1 := ok.am; have a2 := ok.cn; have a3 := ok.su; have a4 := ok.co
  have h6 := v.am; have h7 := v.cn
  have s1 : 0 ≤ sum ∧ 0 ≤ n := by
    have h2 := v.su; have h3 := v.co
    unfold usedS at h2; unfold usedN at h3
    split at h2 <;> split at h3 <;> omega
  rw [useC, if_pos hu]
  refine ⟨⟨?_, ?_, ?_, ?_, ?_, ?_⟩, ?_, ?_, ?_, ?_, ?_, ?_, ?_⟩ <;> simp [e1, e2, e3, e4, e5, e6, e7, e8, usedS, usedN] <;> omega
theorem LInv.kept {c : CS} {L K day sum n x : Int} (v : LInv c L K day sum n) (hd : 0 ≤ day ∧ day ≤ 1000) (hx : 0 ≤ x ∧ x ≤ 255) (h0 : L < sum + x ∨ K < n + 1) :
    useC c day x = c := by
  have hu := v.use hd hx
  rw [if_pos h0] at hu
  rw [useC, if_neg (by omega)]
/-- A slice of steps that came in. -/
def InSteps (h : Heap) (p : Option Addr) (len : Nat) : Prop := len = 0 ∨ ∃ b off c e fr, p = some ⟨b, off, none⟩ ∧ h[b]? = some (.cells c e fr) ∧ ∀ i, i < len → ∃ x y z u : Int,
  c[off + i * 4]? = some (.int .u8 x) ∧ c[off + i * 4 + 1]? = some (.int .i64 y) ∧ c[off + i * 4 + 2]? = some (.int .i64 z) ∧ c[off + i * 4 + 3]? = some (.int .i64 u) ∧
  rdCS (some (.cells c e fr)) (off + i * 4) 4 = some #[.int .u8 x, .int .i64 y, .int .i64 z, .int .i64 u]
theorem limits_h (L K : Int) (p : Option Addr) (len cap : Nat) (h : Heap) (hp : InSteps h p len) (hl : len ≤ 9223372036854775807) (hL : 0 ≤ L ∧ L ≤ 255) (hK : 0 ≤ K ∧ K ≤ 255) :
    CallsH Try.prog 4 #[.int .u8 L, .int .u8 K, .slice p len cap] h fun r h' => r = .returned (.bool true) ∧ Grew h h' := by
  have wL : IntKind.i64.wrap L = L := w_i64 (by omega) (by omega)
  have wK : IntKind.i64.wrap (K.tmod 16) = K % 16 := by rw [Int.tmod_eq_emod_of_nonneg hK.1]; exact w_i64 (by omega) (by omega)
  refine callsH_of_den ⟨Try.prog, 4, Try.f4, 126, [0, 1, 2, 6, 7, 8, 9, 10, 11, 12, 13, 14, 15, 16], _⟩ (args := [_, _, _]) Try.func4 rfl Try.ntmps4 (by simp) ?_
  simp only [argE_nil, argE_cons, ↓vmD, vmV, List.toList_toArray, ↓reduceIte, Nat.reduceAdd, Nat.reduceSub, Nat.reduceEqDiff, Nat.reduceLT, Nat.reduceLeDiff, reduceCtorEq, Option.some.injEq, Prod.mk.injEq, Bool.false_eq_true, Bool.true_eq_false, and_self, and_true, true_and, and_false, false_and, or_false, or_true, false_or, true_or, Bool.and_self, Bool.and_true, Bool.true_and, Bool.false_and, Bool.and_false, Bool.false_or, Bool.or_false, Bool.true_or, Bool.or_true, Bool.not_true, Bool.not_false, not_false_eq_true, not_true_eq_false, ne_eq, decide_true, decide_false, decide_eq_true_eq, forall_const, List.cons_append, List.nil_append, List.length_cons, List.length_nil, List.size_toArray, List.setIfInBounds_toArray, List.set_cons_zero, List.set_cons_succ, List.getElem?_toArray, List.getElem?_cons_zero, List.getElem?_cons_succ, List.extract_toArray, List.extract_eq_take_drop, List.drop_zero, List.drop_succ_cons, List.drop_nil, List.take_zero, List.take_succ_cons, List.take_nil, Nat.zero_add, Nat.add_zero, Int.reduceToNat, Int.reduceLT, Int.reduceLE, Int.reduceEq, Int.reduceNeg, Int.reduceBEq, Int.reduceBNe, Array.size_push, Int.natCast_nonneg, Int.toNat_natCast, beq_false, beq_true, bne_self_eq_false, beq_self_eq_true, Bool.not_eq_false', beq_eq_false_iff_ne, String.reduceEq, Int.lt_irrefl, Nat.lt_irrefl, getP, getS, setP, setS, sizeS, Nat.left_eq_add, Nat.add_eq_left, Nat.add_right_cancel_iff, Nat.add_left_cancel_iff, Nat.lt_add_one, Nat.succ_ne_self, Nat.one_ne_zero,  nil_str, Option.isNone_some, Option.isNone_none, Option.isSome_some, Option.isSome_none, Bool.not_eq_true', decide_eq_false_iff_not, Bool.or_eq_true, Bool.and_eq_true, beq_iff_eq, bne_iff_ne, tyS, wL, wK]
  generalize hK' : K % 16 = M
  have hM : 0 ≤ M ∧ M ≤ 15 := by omega
  refine (new_h sampleS 1000 L M h).mono ?_
  have e0 : newE sampleS 1000 L M = 0 := by
    have a1 : L ≤ 999999999999 := by omega
    have a2 : ¬ M < 0 := by omega
    have a3 : ¬ 1000 < M := by omega
    simp [newE, chk_sample, dateOk, amtOk, hL.1, a1, a2, a3]
  rintro _ h1 (⟨-, b, hb, rfl, hc, g1, -⟩ | ⟨hn, -⟩)
  rotate_left
  · exact absurd e0 hn
  simp only [argE_nil, argE_cons, ↓vmD, vmV, List.toList_toArray, ↓reduceIte, Nat.reduceAdd, Nat.reduceSub, Nat.reduceEqDiff, Nat.reduceLT, Nat.reduceLeDiff, reduceCtorEq, Option.some.injEq, Prod.mk.injEq, Bool.false_eq_true, Bool.true_eq_false, and_self, and_true, true_and, and_false, false_and, or_false, or_true, false_or, true_or, Bool.and_self, Bool.and_true, Bool.true_and, Bool.false_and, Bool.and_false, Bool.false_or, Bool.or_false, Bool.true_or, Bool.or_true, Bool.not_true, Bool.not_false, not_false_eq_true, not_true_eq_false, ne_eq, decide_true, decide_false, decide_eq_true_eq, forall_const, List.cons_append, List.nil_append, List.length_cons, List.length_nil, List.size_toArray, List.setIfInBounds_toArray, List.set_cons_zero, List.set_cons_succ, List.getElem?_toArray, List.getElem?_cons_zero, List.getElem?_cons_succ, List.extract_toArray, List.extract_eq_take_drop, List.drop_zero, List.drop_succ_cons, List.drop_nil, List.take_zero, List.take_succ_cons, List.take_nil, Nat.zero_add, Nat.add_zero, Int.reduceToNat, Int.reduceLT, Int.reduceLE, Int.reduceEq, Int.reduceNeg, Int.reduceBEq, Int.reduceBNe, Array.size_push, Int.natCast_nonneg, Int.toNat_natCast, beq_false, beq_true, bne_self_eq_false, beq_self_eq_true, Bool.not_eq_false', beq_eq_false_iff_ne, String.reduceEq, Int.lt_irrefl, Nat.lt_irrefl, getP, getS, setP, setS, sizeS, Nat.left_eq_add, Nat.add_eq_left, Nat.add_right_cancel_iff, Nat.add_left_cancel_iff, Nat.lt_add_one, Nat.succ_ne_self, Nat.one_ne_zero,  nil_str, Option.isNone_some, Option.isNone_none, Option.isSome_some, Option.isSome_none, Bool.not_eq_true', decide_eq_false_iff_not, Bool.or_eq_true, Bool.and_eq_true, beq_iff_eq, bne_iff_ne, tyS, wL, wK]
  by_cases h60 : 60 < (len : Int)
  · rw [if_neg (by simpa using h60), if_pos h60]
    refine (awake_h h1).mono ?_
    rintro _ h2 ⟨rfl, gg⟩
    simp only [argE_nil, argE_cons, ↓vmD, vmV, List.toList_toArray, ↓reduceIte, Nat.reduceAdd, Nat.reduceSub, Nat.reduceEqDiff, Nat.reduceLT, Nat.reduceLeDiff, reduceCtorEq, Option.some.injEq, Prod.mk.injEq, Bool.false_eq_true, Bool.true_eq_false, and_self, and_true, true_and, and_false, false_and, or_false, or_true, false_or, true_or, Bool.and_self, Bool.and_true, Bool.true_and, Bool.false_and, Bool.and_false, Bool.false_or, Bool.or_false, Bool.true_or, Bool.or_true, Bool.not_true, Bool.not_false, not_false_eq_true, not_true_eq_false, ne_eq, decide_true, decide_false, decide_eq_true_eq, forall_const, List.cons_append, List.nil_append, List.length_cons, List.length_nil, List.size_toArray, List.setIfInBounds_toArray, List.set_cons_zero, List.set_cons_succ, List.getElem?_toArray, List.getElem?_cons_zero, List.getElem?_cons_succ, List.extract_toArray, List.extract_eq_take_drop, List.drop_zero, List.drop_succ_cons, List.drop_nil, List.take_zero, List.take_succ_cons, List.take_nil, Nat.zero_add, Nat.add_zero, Int.reduceToNat, Int.reduceLT, Int.reduceLE, Int.reduceEq, Int.reduceNeg, Int.reduceBEq, Int.reduceBNe, Array.size_push, Int.natCast_nonneg, Int.toNat_natCast, beq_false, beq_true, bne_self_eq_false, beq_self_eq_true, Bool.not_eq_false', beq_eq_false_iff_ne, String.reduceEq, Int.lt_irrefl, Nat.lt_irrefl, getP, getS, setP, setS, sizeS, Nat.left_eq_add, Nat.add_eq_left, Nat.add_right_cancel_iff, Nat.add_left_cancel_iff, Nat.lt_add_one, Nat.succ_ne_self, Nat.one_ne_zero,  nil_str, Option.isNone_some, Option.isNone_none, Option.isSome_some, Option.isSome_none, Bool.not_eq_true', decide_eq_false_iff_not, Bool.or_eq_true, Bool.and_eq_true, beq_iff_eq, bne_iff_ne, tyS]
    exact g1.trans gg
  rw [if_pos h60]
  refine (do_h b _ 1 h1 hc).mono ?_
  rintro _ h2 ⟨rfl, hq⟩
  rw [show (nextF (newC sampleS 1000 L M).st 1).2 = 0 from rfl]
  have hc2 := got (lt_of_get hc) (doC (newC sampleS 1000 L M) 1).obj
  have g2 := g1.set hb (doC (newC sampleS 1000 L M) 1).obj
  rw [← hq] at hc2 g2
  clear hq hc g1
  simp only [argE_nil, argE_cons, ↓vmD, vmV, List.toList_toArray, ↓reduceIte, Nat.reduceAdd, Nat.reduceSub, Nat.reduceEqDiff, Nat.reduceLT, Nat.reduceLeDiff, reduceCtorEq, Option.some.injEq, Prod.mk.injEq, Bool.false_eq_true, Bool.true_eq_false, and_self, and_true, true_and, and_false, false_and, or_false, or_true, false_or, true_or, Bool.and_self, Bool.and_true, Bool.true_and, Bool.false_and, Bool.and_false, Bool.false_or, Bool.or_false, Bool.true_or, Bool.or_true, Bool.not_true, Bool.not_false, not_false_eq_true, not_true_eq_false, ne_eq, decide_true, decide_false, decide_eq_true_eq, forall_const, List.cons_append, List.nil_append, List.length_cons, List.length_nil, List.size_toArray, List.setIfInBounds_toArray, List.set_cons_zero, List.set_cons_succ, List.getElem?_toArray, List.getElem?_cons_zero, List.getElem?_cons_succ, List.extract_toArray, List.extract_eq_take_drop, List.drop_zero, List.drop_succ_cons, List.drop_nil, List.take_zero, List.take_succ_cons, List.take_nil, Nat.zero_add, Nat.add_zero, Int.reduceToNat, Int.reduceLT, Int.reduceLE, Int.reduceEq, Int.reduceNeg, Int.reduceBEq, Int.reduceBNe, Array.size_push, Int.natCast_nonneg, Int.toNat_natCast, beq_false, beq_true, bne_self_eq_false, beq_self_eq_true, Bool.not_eq_false', beq_eq_false_iff_ne, String.reduceEq, Int.lt_irrefl, Nat.lt_irrefl, getP, getS, setP, setS, sizeS, Nat.left_eq_add, Nat.add_eq_left, Nat.add_right_cancel_iff, Nat.add_left_cancel_iff, Nat.lt_add_one, Nat.succ_ne_self, Nat.one_ne_zero,  nil_str, Option.isNone_some, Option.isNone_none, Option.isSome_some, Option.isSome_none, Bool.not_eq_true', decide_eq_false_iff_not, Bool.or_eq_true, Bool.and_eq_true, beq_iff_eq, bne_iff_ne, tyS, wL, wK, hK']
  obtain ⟨i, C, day, sum, n, he, hi, hv, hcC, hday, hsum, hn⟩ : ∃ (i : Nat) (C : CS) (day sum n : Int), (i = 0 ∧ day = 0 ∧ sum = 0 ∧ n = 0) ∧ i ≤ len ∧ LInv C L M day sum n ∧ h2[b]? = some C.obj ∧ (0 ≤ day ∧ day ≤ 3 * i) ∧ (0 ≤ sum ∧ sum ≤ L) ∧ (0 ≤ n ∧ n ≤ M) :=
    ⟨0, doC (newC sampleS 1000 L M) 1, 0, 0, 0, ⟨rfl, rfl, rfl, rfl⟩, by omega, by
      have : doC (newC sampleS 1000 L M) 1 = { newC sampleS 1000 L M with st := 2 } := rfl
      rw [this]
      refine ⟨⟨?_, ?_, ?_, ?_, ?_, ?_⟩, ?_, ?_, ?_, ?_, ?_, ?_, ?_⟩ <;> simp [newC, usedS, usedN] <;> omega, hc2, by omega, by omega, by omega⟩
  clear hc2
  rw [show (9, some (Value.int .i64 0)) = (9, some (Value.int .i64 day)) by rw [he.2.1], show (10, some (Value.int .i64 0)) = (10, some (Value.int .i64 sum)) by rw [he.2.2.1],
    show (11, some (Value.int .i64 0)) = (11, some (Value.int .i64 n)) by rw [he.2.2.2], show (12, some (Value.int .i64 0)) = (12, some (Value.int .i64 (i : Int))) by rw [he.1]; rfl]
  clear he
  have hlen : len ≤ 60 := by omega
  generalize hm : len - i = m
  induction m generalizing i C day sum n h2 with
  | zero =>
    have hlt : ((i : Int) < (len : Int)) = False := by simp; omega
    refine LoopAt.intro ?_
    simp only [argE_nil, argE_cons, ↓vmD, vmV, List.toList_toArray, ↓reduceIte, Nat.reduceAdd, Nat.reduceSub, Nat.reduceEqDiff, Nat.reduceLT, Nat.reduceLeDiff, reduceCtorEq, Option.some.injEq, Prod.mk.injEq, Bool.false_eq_true, Bool.true_eq_false, and_self, and_true, true_and, and_false, false_and, or_false, or_true, false_or, true_or, Bool.and_self, Bool.and_true, Bool.true_and, Bool.false_and, Bool.and_false, Bool.false_or, Bool.or_false, Bool.true_or, Bool.or_true, Bool.not_true, Bool.not_false, not_false_eq_true, not_true_eq_false, ne_eq, decide_true, decide_false, decide_eq_true_eq, forall_const, List.cons_append, List.nil_append, List.length_cons, List.length_nil, List.size_toArray, List.setIfInBounds_toArray, List.set_cons_zero, List.set_cons_succ, List.getElem?_toArray, List.getElem?_cons_zero, List.getElem?_cons_succ, List.extract_toArray, List.extract_eq_take_drop, List.drop_zero, List.drop_succ_cons, List.drop_nil, List.take_zero, List.take_succ_cons, List.take_nil, Nat.zero_add, Nat.add_zero, Int.reduceToNat, Int.reduceLT, Int.reduceLE, Int.reduceEq, Int.reduceNeg, Int.reduceBEq, Int.reduceBNe, Array.size_push, Int.natCast_nonneg, Int.toNat_natCast, beq_false, beq_true, bne_self_eq_false, beq_self_eq_true, Bool.not_eq_false', beq_eq_false_iff_ne, String.reduceEq, Int.lt_irrefl, Nat.lt_irrefl, getP, getS, setP, setS, sizeS, Nat.left_eq_add, Nat.add_eq_left, Nat.add_right_cancel_iff, Nat.add_left_cancel_iff, Nat.lt_add_one, Nat.succ_ne_self, Nat.one_ne_zero,  nil_str, Option.isNone_some, Option.isNone_none, Option.isSome_some, Option.isSome_none, Bool.not_eq_true', decide_eq_false_iff_not, Bool.or_eq_true, Bool.and_eq_true, beq_iff_eq, bne_iff_ne, tyS, hlt]
    refine (awake_h h2).mono ?_
    rintro _ h3 ⟨rfl, gg⟩
    simp only [argE_nil, argE_cons, ↓vmD, vmV, List.toList_toArray, ↓reduceIte, Nat.reduceAdd, Nat.reduceSub, Nat.reduceEqDiff, Nat.reduceLT, Nat.reduceLeDiff, reduceCtorEq, Option.some.injEq, Prod.mk.injEq, Bool.false_eq_true, Bool.true_eq_false, and_self, and_true, true_and, and_false, false_and, or_false, or_true, false_or, true_or, Bool.and_self, Bool.and_true, Bool.true_and, Bool.false_and, Bool.and_false, Bool.false_or, Bool.or_false, Bool.true_or, Bool.or_true, Bool.not_true, Bool.not_false, not_false_eq_true, not_true_eq_false, ne_eq, decide_true, decide_false, decide_eq_true_eq, forall_const, List.cons_append, List.nil_append, List.length_cons, List.length_nil, List.size_toArray, List.setIfInBounds_toArray, List.set_cons_zero, List.set_cons_succ, List.getElem?_toArray, List.getElem?_cons_zero, List.getElem?_cons_succ, List.extract_toArray, List.extract_eq_take_drop, List.drop_zero, List.drop_succ_cons, List.drop_nil, List.take_zero, List.take_succ_cons, List.take_nil, Nat.zero_add, Nat.add_zero, Int.reduceToNat, Int.reduceLT, Int.reduceLE, Int.reduceEq, Int.reduceNeg, Int.reduceBEq, Int.reduceBNe, Array.size_push, Int.natCast_nonneg, Int.toNat_natCast, beq_false, beq_true, bne_self_eq_false, beq_self_eq_true, Bool.not_eq_false', beq_eq_false_iff_ne, String.reduceEq, Int.lt_irrefl, Nat.lt_irrefl, getP, getS, setP, setS, sizeS, Nat.left_eq_add, Nat.add_eq_left, Nat.add_right_cancel_iff, Nat.add_left_cancel_iff, Nat.lt_add_one, Nat.succ_ne_self, Nat.one_ne_zero,  nil_str, Option.isNone_some, Option.isNone_none, Option.isSome_some, Option.isSome_none, Bool.not_eq_true', decide_eq_false_iff_not, Bool.or_eq_true, Bool.and_eq_true, beq_iff_eq, bne_iff_ne, tyS]
    exact g2.trans gg
  | succ m ih =>
    have hlt : ((i : Int) < (len : Int)) = True := by simp; omega
    rcases hp with hp | ⟨pb, off, pc, pe, pf, rfl, hpb, hcells⟩
    · omega
    obtain ⟨z0, z1, z2, z3, hz0, hz1, hz2, hz3, hz4⟩ := hcells i (by omega)
    have hpb1 := g2.get hpb
    have wi : IntKind.i64.wrap ((i : Int) + 1) = ((i + 1 : Nat) : Int) := by rw [w_i64 (by omega) (by omega)]; omega
    have A3 := and_b z2 3 (by decide)
    have A255 := and_b z3 255 (by decide)
    refine LoopAt.intro ?_
    generalize hδ : IntKind.i64.wrap ((BitVec.ofInt IntKind.i64.bits z2 &&& BitVec.ofInt IntKind.i64.bits ((3 : Nat) : Int)).toNat : Nat) = δ at A3
    generalize hx : IntKind.i64.wrap ((BitVec.ofInt IntKind.i64.bits z3 &&& BitVec.ofInt IntKind.i64.bits ((255 : Nat) : Int)).toNat : Nat) = x at A255
    have hδ : IntKind.i64.wrap ((BitVec.ofInt IntKind.i64.bits z2 &&& BitVec.ofInt IntKind.i64.bits 3).toNat : Nat) = δ := hδ
    have hx : IntKind.i64.wrap ((BitVec.ofInt IntKind.i64.bits z3 &&& BitVec.ofInt IntKind.i64.bits 255).toNat : Nat) = x := hx
    have hxb : 0 ≤ x ∧ x ≤ 255 := A255
    have w01 : IntKind.i64.wrap (0 + 1) = 1 := by decide
    by_cases h0 : δ = 0
    · have hd : 0 ≤ day ∧ day ≤ 1000 := by omega
      have hw := hv
      have wD : IntKind.i64.wrap (sum + x) = sum + x := w_i64 (by omega) (by omega)
      have wS : IntKind.i64.wrap (n + 1) = n + 1 := w_i64 (by omega) (by omega)
      have wN : IntKind.i64.wrap (sum + x) = sum + x := wD
      simp only [argE_nil, argE_cons, ↓vmD, vmV, List.toList_toArray, ↓reduceIte, Nat.reduceAdd, Nat.reduceSub, Nat.reduceEqDiff, Nat.reduceLT, Nat.reduceLeDiff, reduceCtorEq, Option.some.injEq, Prod.mk.injEq, Bool.false_eq_true, Bool.true_eq_false, and_self, and_true, true_and, and_false, false_and, or_false, or_true, false_or, true_or, Bool.and_self, Bool.and_true, Bool.true_and, Bool.false_and, Bool.and_false, Bool.false_or, Bool.or_false, Bool.true_or, Bool.or_true, Bool.not_true, Bool.not_false, not_false_eq_true, not_true_eq_false, ne_eq, decide_true, decide_false, decide_eq_true_eq, forall_const, List.cons_append, List.nil_append, List.length_cons, List.length_nil, List.size_toArray, List.setIfInBounds_toArray, List.set_cons_zero, List.set_cons_succ, List.getElem?_toArray, List.getElem?_cons_zero, List.getElem?_cons_succ, List.extract_toArray, List.extract_eq_take_drop, List.drop_zero, List.drop_succ_cons, List.drop_nil, List.take_zero, List.take_succ_cons, List.take_nil, Nat.zero_add, Nat.add_zero, Int.reduceToNat, Int.reduceLT, Int.reduceLE, Int.reduceEq, Int.reduceNeg, Int.reduceBEq, Int.reduceBNe, Array.size_push, Int.natCast_nonneg, Int.toNat_natCast, beq_false, beq_true, bne_self_eq_false, beq_self_eq_true, Bool.not_eq_false', beq_eq_false_iff_ne, String.reduceEq, Int.lt_irrefl, Nat.lt_irrefl, getP, getS, setP, setS, sizeS, Nat.left_eq_add, Nat.add_eq_left, Nat.add_right_cancel_iff, Nat.add_left_cancel_iff, Nat.lt_add_one, Nat.succ_ne_self, Nat.one_ne_zero,  nil_str, Option.isNone_some, Option.isNone_none, Option.isSome_some, Option.isSome_none, Bool.not_eq_true', decide_eq_false_iff_not, Bool.or_eq_true, Bool.and_eq_true, beq_iff_eq, bne_iff_ne, tyS, hlt, hpb1, hz0, hz1, hz2, hz3, hz4, addr_add, hδ, hx, wL, wK, hK', wD, wS, h0]
      split
      · rename_i q1
        split
        · rename_i q2
          have hcond : L < sum + x ∨ M < n + 1 := by omega
          refine (use_h b C (day) x h2 hcC hw.ok).mono ?_
          rintro _ h3 ⟨rfl, gg⟩
          rw [hw.use hd hxb, if_pos hcond]
          rw [hw.kept hd hxb hcond, set_get hcC] at gg
          have hc3 := gg.get hcC
          have g3 := g2.trans gg
          simp only [argE_nil, argE_cons, ↓vmD, vmV, List.toList_toArray, ↓reduceIte, Nat.reduceAdd, Nat.reduceSub, Nat.reduceEqDiff, Nat.reduceLT, Nat.reduceLeDiff, reduceCtorEq, Option.some.injEq, Prod.mk.injEq, Bool.false_eq_true, Bool.true_eq_false, and_self, and_true, true_and, and_false, false_and, or_false, or_true, false_or, true_or, Bool.and_self, Bool.and_true, Bool.true_and, Bool.false_and, Bool.and_false, Bool.false_or, Bool.or_false, Bool.true_or, Bool.or_true, Bool.not_true, Bool.not_false, not_false_eq_true, not_true_eq_false, ne_eq, decide_true, decide_false, decide_eq_true_eq, forall_const, List.cons_append, List.nil_append, List.length_cons, List.length_nil, List.size_toArray, List.setIfInBounds_toArray, List.set_cons_zero, List.set_cons_succ, List.getElem?_toArray, List.getElem?_cons_zero, List.getElem?_cons_succ, List.extract_toArray, List.extract_eq_take_drop, List.drop_zero, List.drop_succ_cons, List.drop_nil, List.take_zero, List.take_succ_cons, List.take_nil, Nat.zero_add, Nat.add_zero, Int.reduceToNat, Int.reduceLT, Int.reduceLE, Int.reduceEq, Int.reduceNeg, Int.reduceBEq, Int.reduceBNe, Array.size_push, Int.natCast_nonneg, Int.toNat_natCast, beq_false, beq_true, bne_self_eq_false, beq_self_eq_true, Bool.not_eq_false', beq_eq_false_iff_ne, String.reduceEq, Int.lt_irrefl, Nat.lt_irrefl, getP, getS, setP, setS, sizeS, Nat.left_eq_add, Nat.add_eq_left, Nat.add_right_cancel_iff, Nat.add_left_cancel_iff, Nat.lt_add_one, Nat.succ_ne_self, Nat.one_ne_zero,  nil_str, Option.isNone_some, Option.isNone_none, Option.isSome_some, Option.isSome_none, Bool.not_eq_true', decide_eq_false_iff_not, Bool.or_eq_true, Bool.and_eq_true, beq_iff_eq, bne_iff_ne, tyS, hlt, hpb1, hz0, hz1, hz2, hz3, hz4, addr_add, hδ, hx, wL, wK, hK', wD, wS, wN, w01, wi]
          refine (used_h b C (day) h3 hc3 hw.ok).mono ?_
          rintro _ h3 ⟨rfl, rfl⟩
          rw [hw.su, hw.co]
          have c1 : (L < sum) = False := by simp; omega
          have c2 : (M < n) = False := by simp; omega
          simp only [argE_nil, argE_cons, ↓vmD, vmV, List.toList_toArray, ↓reduceIte, Nat.reduceAdd, Nat.reduceSub, Nat.reduceEqDiff, Nat.reduceLT, Nat.reduceLeDiff, reduceCtorEq, Option.some.injEq, Prod.mk.injEq, Bool.false_eq_true, Bool.true_eq_false, and_self, and_true, true_and, and_false, false_and, or_false, or_true, false_or, true_or, Bool.and_self, Bool.and_true, Bool.true_and, Bool.false_and, Bool.and_false, Bool.false_or, Bool.or_false, Bool.true_or, Bool.or_true, Bool.not_true, Bool.not_false, not_false_eq_true, not_true_eq_false, ne_eq, decide_true, decide_false, decide_eq_true_eq, forall_const, List.cons_append, List.nil_append, List.length_cons, List.length_nil, List.size_toArray, List.setIfInBounds_toArray, List.set_cons_zero, List.set_cons_succ, List.getElem?_toArray, List.getElem?_cons_zero, List.getElem?_cons_succ, List.extract_toArray, List.extract_eq_take_drop, List.drop_zero, List.drop_succ_cons, List.drop_nil, List.take_zero, List.take_succ_cons, List.take_nil, Nat.zero_add, Nat.add_zero, Int.reduceToNat, Int.reduceLT, Int.reduceLE, Int.reduceEq, Int.reduceNeg, Int.reduceBEq, Int.reduceBNe, Array.size_push, Int.natCast_nonneg, Int.toNat_natCast, beq_false, beq_true, bne_self_eq_false, beq_self_eq_true, Bool.not_eq_false', beq_eq_false_iff_ne, String.reduceEq, Int.lt_irrefl, Nat.lt_irrefl, getP, getS, setP, setS, sizeS, Nat.left_eq_add, Nat.add_eq_left, Nat.add_right_cancel_iff, Nat.add_left_cancel_iff, Nat.lt_add_one, Nat.succ_ne_self, Nat.one_ne_zero,  nil_str, Option.isNone_some, Option.isNone_none, Option.isSome_some, Option.isSome_none, Bool.not_eq_true', decide_eq_false_iff_not, Bool.or_eq_true, Bool.and_eq_true, beq_iff_eq, bne_iff_ne, tyS, hlt, hpb1, hz0, hz1, hz2, hz3, hz4, addr_add, hδ, hx, wL, wK, hK', wD, wS, wN, w01, wi, c1, c2]
          exact LoopAt.weak (ih h3 g3 (i + 1) C (day) (sum) (n) (by omega) hw hc3 (by omega) (by omega) (by omega) (by omega)) ⟨rfl, rfl, rfl, rfl, rfl, rfl, rfl, rfl, rfl, rfl, trivial⟩
        · rename_i q2
          have hcond : ¬ (L < sum + x ∨ M < n + 1) := by omega
          refine (use_h b C (day) x h2 hcC hw.ok).mono ?_
          rintro _ h3 ⟨rfl, gg⟩
          have hw2 := hw.used hd hxb hcond
          rw [hw.use hd hxb, if_neg hcond]
          have hc3 := gg.get (got (lt_of_get hcC) _)
          have g3 := (g2.set hb _).trans gg
          clear gg
          simp only [argE_nil, argE_cons, ↓vmD, vmV, List.toList_toArray, ↓reduceIte, Nat.reduceAdd, Nat.reduceSub, Nat.reduceEqDiff, Nat.reduceLT, Nat.reduceLeDiff, reduceCtorEq, Option.some.injEq, Prod.mk.injEq, Bool.false_eq_true, Bool.true_eq_false, and_self, and_true, true_and, and_false, false_and, or_false, or_true, false_or, true_or, Bool.and_self, Bool.and_true, Bool.true_and, Bool.false_and, Bool.and_false, Bool.false_or, Bool.or_false, Bool.true_or, Bool.or_true, Bool.not_true, Bool.not_false, not_false_eq_true, not_true_eq_false, ne_eq, decide_true, decide_false, decide_eq_true_eq, forall_const, List.cons_append, List.nil_append, List.length_cons, List.length_nil, List.size_toArray, List.setIfInBounds_toArray, List.set_cons_zero, List.set_cons_succ, List.getElem?_toArray, List.getElem?_cons_zero, List.getElem?_cons_succ, List.extract_toArray, List.extract_eq_take_drop, List.drop_zero, List.drop_succ_cons, List.drop_nil, List.take_zero, List.take_succ_cons, List.take_nil, Nat.zero_add, Nat.add_zero, Int.reduceToNat, Int.reduceLT, Int.reduceLE, Int.reduceEq, Int.reduceNeg, Int.reduceBEq, Int.reduceBNe, Array.size_push, Int.natCast_nonneg, Int.toNat_natCast, beq_false, beq_true, bne_self_eq_false, beq_self_eq_true, Bool.not_eq_false', beq_eq_false_iff_ne, String.reduceEq, Int.lt_irrefl, Nat.lt_irrefl, getP, getS, setP, setS, sizeS, Nat.left_eq_add, Nat.add_eq_left, Nat.add_right_cancel_iff, Nat.add_left_cancel_iff, Nat.lt_add_one, Nat.succ_ne_self, Nat.one_ne_zero,  nil_str, Option.isNone_some, Option.isNone_none, Option.isSome_some, Option.isSome_none, Bool.not_eq_true', decide_eq_false_iff_not, Bool.or_eq_true, Bool.and_eq_true, beq_iff_eq, bne_iff_ne, tyS, hlt, hpb1, hz0, hz1, hz2, hz3, hz4, addr_add, hδ, hx, wL, wK, hK', wD, wS, wN, w01, wi]
          refine (used_h b _ (day) h3 hc3 hw2.ok).mono ?_
          rintro _ h3 ⟨rfl, rfl⟩
          rw [hw2.su, hw2.co]
          have c1 : (L < sum + x) = False := by simp; omega
          have c2 : (M < n + 1) = False := by simp; omega
          simp only [argE_nil, argE_cons, ↓vmD, vmV, List.toList_toArray, ↓reduceIte, Nat.reduceAdd, Nat.reduceSub, Nat.reduceEqDiff, Nat.reduceLT, Nat.reduceLeDiff, reduceCtorEq, Option.some.injEq, Prod.mk.injEq, Bool.false_eq_true, Bool.true_eq_false, and_self, and_true, true_and, and_false, false_and, or_false, or_true, false_or, true_or, Bool.and_self, Bool.and_true, Bool.true_and, Bool.false_and, Bool.and_false, Bool.false_or, Bool.or_false, Bool.true_or, Bool.or_true, Bool.not_true, Bool.not_false, not_false_eq_true, not_true_eq_false, ne_eq, decide_true, decide_false, decide_eq_true_eq, forall_const, List.cons_append, List.nil_append, List.length_cons, List.length_nil, List.size_toArray, List.setIfInBounds_toArray, List.set_cons_zero, List.set_cons_succ, List.getElem?_toArray, List.getElem?_cons_zero, List.getElem?_cons_succ, List.extract_toArray, List.extract_eq_take_drop, List.drop_zero, List.drop_succ_cons, List.drop_nil, List.take_zero, List.take_succ_cons, List.take_nil, Nat.zero_add, Nat.add_zero, Int.reduceToNat, Int.reduceLT, Int.reduceLE, Int.reduceEq, Int.reduceNeg, Int.reduceBEq, Int.reduceBNe, Array.size_push, Int.natCast_nonneg, Int.toNat_natCast, beq_false, beq_true, bne_self_eq_false, beq_self_eq_true, Bool.not_eq_false', beq_eq_false_iff_ne, String.reduceEq, Int.lt_irrefl, Nat.lt_irrefl, getP, getS, setP, setS, sizeS, Nat.left_eq_add, Nat.add_eq_left, Nat.add_right_cancel_iff, Nat.add_left_cancel_iff, Nat.lt_add_one, Nat.succ_ne_self, Nat.one_ne_zero,  nil_str, Option.isNone_some, Option.isNone_none, Option.isSome_some, Option.isSome_none, Bool.not_eq_true', decide_eq_false_iff_not, Bool.or_eq_true, Bool.and_eq_true, beq_iff_eq, bne_iff_ne, tyS, hlt, hpb1, hz0, hz1, hz2, hz3, hz4, addr_add, hδ, hx, wL, wK, hK', wD, wS, wN, w01, wi, c1, c2]
          exact LoopAt.weak (ih h3 g3 (i + 1) _ (day) _ _ (by omega) hw2 hc3 (by omega) (by omega) (by omega) (by omega)) ⟨rfl, rfl, rfl, rfl, rfl, rfl, rfl, rfl, rfl, rfl, trivial⟩
      · rename_i q1
        have hcond : L < sum + x ∨ M < n + 1 := by omega
        refine (use_h b C (day) x h2 hcC hw.ok).mono ?_
        rintro _ h3 ⟨rfl, gg⟩
        rw [hw.use hd hxb, if_pos hcond]
        rw [hw.kept hd hxb hcond, set_get hcC] at gg
        have hc3 := gg.get hcC
        have g3 := g2.trans gg
        simp only [argE_nil, argE_cons, ↓vmD, vmV, List.toList_toArray, ↓reduceIte, Nat.reduceAdd, Nat.reduceSub, Nat.reduceEqDiff, Nat.reduceLT, Nat.reduceLeDiff, reduceCtorEq, Option.some.injEq, Prod.mk.injEq, Bool.false_eq_true, Bool.true_eq_false, and_self, and_true, true_and, and_false, false_and, or_false, or_true, false_or, true_or, Bool.and_self, Bool.and_true, Bool.true_and, Bool.false_and, Bool.and_false, Bool.false_or, Bool.or_false, Bool.true_or, Bool.or_true, Bool.not_true, Bool.not_false, not_false_eq_true, not_true_eq_false, ne_eq, decide_true, decide_false, decide_eq_true_eq, forall_const, List.cons_append, List.nil_append, List.length_cons, List.length_nil, List.size_toArray, List.setIfInBounds_toArray, List.set_cons_zero, List.set_cons_succ, List.getElem?_toArray, List.getElem?_cons_zero, List.getElem?_cons_succ, List.extract_toArray, List.extract_eq_take_drop, List.drop_zero, List.drop_succ_cons, List.drop_nil, List.take_zero, List.take_succ_cons, List.take_nil, Nat.zero_add, Nat.add_zero, Int.reduceToNat, Int.reduceLT, Int.reduceLE, Int.reduceEq, Int.reduceNeg, Int.reduceBEq, Int.reduceBNe, Array.size_push, Int.natCast_nonneg, Int.toNat_natCast, beq_false, beq_true, bne_self_eq_false, beq_self_eq_true, Bool.not_eq_false', beq_eq_false_iff_ne, String.reduceEq, Int.lt_irrefl, Nat.lt_irrefl, getP, getS, setP, setS, sizeS, Nat.left_eq_add, Nat.add_eq_left, Nat.add_right_cancel_iff, Nat.add_left_cancel_iff, Nat.lt_add_one, Nat.succ_ne_self, Nat.one_ne_zero,  nil_str, Option.isNone_some, Option.isNone_none, Option.isSome_some, Option.isSome_none, Bool.not_eq_true', decide_eq_false_iff_not, Bool.or_eq_true, Bool.and_eq_true, beq_iff_eq, bne_iff_ne, tyS, hlt, hpb1, hz0, hz1, hz2, hz3, hz4, addr_add, hδ, hx, wL, wK, hK', wD, wS, wN, w01, wi]
        refine (used_h b C (day) h3 hc3 hw.ok).mono ?_
        rintro _ h3 ⟨rfl, rfl⟩
        rw [hw.su, hw.co]
        have c1 : (L < sum) = False := by simp; omega
        have c2 : (M < n) = False := by simp; omega
        simp only [argE_nil, argE_cons, ↓vmD, vmV, List.toList_toArray, ↓reduceIte, Nat.reduceAdd, Nat.reduceSub, Nat.reduceEqDiff, Nat.reduceLT, Nat.reduceLeDiff, reduceCtorEq, Option.some.injEq, Prod.mk.injEq, Bool.false_eq_true, Bool.true_eq_false, and_self, and_true, true_and, and_false, false_and, or_false, or_true, false_or, true_or, Bool.and_self, Bool.and_true, Bool.true_and, Bool.false_and, Bool.and_false, Bool.false_or, Bool.or_false, Bool.true_or, Bool.or_true, Bool.not_true, Bool.not_false, not_false_eq_true, not_true_eq_false, ne_eq, decide_true, decide_false, decide_eq_true_eq, forall_const, List.cons_append, List.nil_append, List.length_cons, List.length_nil, List.size_toArray, List.setIfInBounds_toArray, List.set_cons_zero, List.set_cons_succ, List.getElem?_toArray, List.getElem?_cons_zero, List.getElem?_cons_succ, List.extract_toArray, List.extract_eq_take_drop, List.drop_zero, List.drop_succ_cons, List.drop_nil, List.take_zero, List.take_succ_cons, List.take_nil, Nat.zero_add, Nat.add_zero, Int.reduceToNat, Int.reduceLT, Int.reduceLE, Int.reduceEq, Int.reduceNeg, Int.reduceBEq, Int.reduceBNe, Array.size_push, Int.natCast_nonneg, Int.toNat_natCast, beq_false, beq_true, bne_self_eq_false, beq_self_eq_true, Bool.not_eq_false', beq_eq_false_iff_ne, String.reduceEq, Int.lt_irrefl, Nat.lt_irrefl, getP, getS, setP, setS, sizeS, Nat.left_eq_add, Nat.add_eq_left, Nat.add_right_cancel_iff, Nat.add_left_cancel_iff, Nat.lt_add_one, Nat.succ_ne_self, Nat.one_ne_zero,  nil_str, Option.isNone_some, Option.isNone_none, Option.isSome_some, Option.isSome_none, Bool.not_eq_true', decide_eq_false_iff_not, Bool.or_eq_true, Bool.and_eq_true, beq_iff_eq, bne_iff_ne, tyS, hlt, hpb1, hz0, hz1, hz2, hz3, hz4, addr_add, hδ, hx, wL, wK, hK', wD, wS, wN, w01, wi, c1, c2]
        exact LoopAt.weak (ih h3 g3 (i + 1) C (day) (sum) (n) (by omega) hw hc3 (by omega) (by omega) (by omega) (by omega)) ⟨rfl, rfl, rfl, rfl, rfl, rfl, rfl, rfl, rfl, rfl, trivial⟩
    · have hd : 0 ≤ day + δ ∧ day + δ ≤ 1000 := by omega
      have hw := hv.next (δ := δ) (by omega)
      have wD : IntKind.i64.wrap (day + δ) = day + δ := w_i64 (by omega) (by omega)
      have wS : IntKind.i64.wrap (0 + x) = 0 + x := w_i64 (by omega) (by omega)
      have wN : IntKind.i64.wrap (0 + 1) = 0 + 1 := by decide
      simp only [argE_nil, argE_cons, ↓vmD, vmV, List.toList_toArray, ↓reduceIte, Nat.reduceAdd, Nat.reduceSub, Nat.reduceEqDiff, Nat.reduceLT, Nat.reduceLeDiff, reduceCtorEq, Option.some.injEq, Prod.mk.injEq, Bool.false_eq_true, Bool.true_eq_false, and_self, and_true, true_and, and_false, false_and, or_false, or_true, false_or, true_or, Bool.and_self, Bool.and_true, Bool.true_and, Bool.false_and, Bool.and_false, Bool.false_or, Bool.or_false, Bool.true_or, Bool.or_true, Bool.not_true, Bool.not_false, not_false_eq_true, not_true_eq_false, ne_eq, decide_true, decide_false, decide_eq_true_eq, forall_const, List.cons_append, List.nil_append, List.length_cons, List.length_nil, List.size_toArray, List.setIfInBounds_toArray, List.set_cons_zero, List.set_cons_succ, List.getElem?_toArray, List.getElem?_cons_zero, List.getElem?_cons_succ, List.extract_toArray, List.extract_eq_take_drop, List.drop_zero, List.drop_succ_cons, List.drop_nil, List.take_zero, List.take_succ_cons, List.take_nil, Nat.zero_add, Nat.add_zero, Int.reduceToNat, Int.reduceLT, Int.reduceLE, Int.reduceEq, Int.reduceNeg, Int.reduceBEq, Int.reduceBNe, Array.size_push, Int.natCast_nonneg, Int.toNat_natCast, beq_false, beq_true, bne_self_eq_false, beq_self_eq_true, Bool.not_eq_false', beq_eq_false_iff_ne, String.reduceEq, Int.lt_irrefl, Nat.lt_irrefl, getP, getS, setP, setS, sizeS, Nat.left_eq_add, Nat.add_eq_left, Nat.add_right_cancel_iff, Nat.add_left_cancel_iff, Nat.lt_add_one, Nat.succ_ne_self, Nat.one_ne_zero,  nil_str, Option.isNone_some, Option.isNone_none, Option.isSome_some, Option.isSome_none, Bool.not_eq_true', decide_eq_false_iff_not, Bool.or_eq_true, Bool.and_eq_true, beq_iff_eq, bne_iff_ne, tyS, hlt, hpb1, hz0, hz1, hz2, hz3, hz4, addr_add, hδ, hx, wL, wK, hK', wD, wS, wN, h0]
      split
      · rename_i q1
        split
        · rename_i q2
          have hcond : L < 0 + x ∨ M < 0 + 1 := by omega
          refine (use_h b C (day + δ) x h2 hcC hw.ok).mono ?_
          rintro _ h3 ⟨rfl, gg⟩
          rw [hw.use hd hxb, if_pos hcond]
          rw [hw.kept hd hxb hcond, set_get hcC] at gg
          have hc3 := gg.get hcC
          have g3 := g2.trans gg
          simp only [argE_nil, argE_cons, ↓vmD, vmV, List.toList_toArray, ↓reduceIte, Nat.reduceAdd, Nat.reduceSub, Nat.reduceEqDiff, Nat.reduceLT, Nat.reduceLeDiff, reduceCtorEq, Option.some.injEq, Prod.mk.injEq, Bool.false_eq_true, Bool.true_eq_false, and_self, and_true, true_and, and_false, false_and, or_false, or_true, false_or, true_or, Bool.and_self, Bool.and_true, Bool.true_and, Bool.false_and, Bool.and_false, Bool.false_or, Bool.or_false, Bool.true_or, Bool.or_true, Bool.not_true, Bool.not_false, not_false_eq_true, not_true_eq_false, ne_eq, decide_true, decide_false, decide_eq_true_eq, forall_const, List.cons_append, List.nil_append, List.length_cons, List.length_nil, List.size_toArray, List.setIfInBounds_toArray, List.set_cons_zero, List.set_cons_succ, List.getElem?_toArray, List.getElem?_cons_zero, List.getElem?_cons_succ, List.extract_toArray, List.extract_eq_take_drop, List.drop_zero, List.drop_succ_cons, List.drop_nil, List.take_zero, List.take_succ_cons, List.take_nil, Nat.zero_add, Nat.add_zero, Int.reduceToNat, Int.reduceLT, Int.reduceLE, Int.reduceEq, Int.reduceNeg, Int.reduceBEq, Int.reduceBNe, Array.size_push, Int.natCast_nonneg, Int.toNat_natCast, beq_false, beq_true, bne_self_eq_false, beq_self_eq_true, Bool.not_eq_false', beq_eq_false_iff_ne, String.reduceEq, Int.lt_irrefl, Nat.lt_irrefl, getP, getS, setP, setS, sizeS, Nat.left_eq_add, Nat.add_eq_left, Nat.add_right_cancel_iff, Nat.add_left_cancel_iff, Nat.lt_add_one, Nat.succ_ne_self, Nat.one_ne_zero,  nil_str, Option.isNone_some, Option.isNone_none, Option.isSome_some, Option.isSome_none, Bool.not_eq_true', decide_eq_false_iff_not, Bool.or_eq_true, Bool.and_eq_true, beq_iff_eq, bne_iff_ne, tyS, hlt, hpb1, hz0, hz1, hz2, hz3, hz4, addr_add, hδ, hx, wL, wK, hK', wD, wS, wN, w01, wi]
          refine (used_h b C (day + δ) h3 hc3 hw.ok).mono ?_
          rintro _ h3 ⟨rfl, rfl⟩
          rw [hw.su, hw.co]
          have c1 : (L < 0) = False := by simp; omega
          have c2 : (M < 0) = False := by simp; omega
          simp only [argE_nil, argE_cons, ↓vmD, vmV, List.toList_toArray, ↓reduceIte, Nat.reduceAdd, Nat.reduceSub, Nat.reduceEqDiff, Nat.reduceLT, Nat.reduceLeDiff, reduceCtorEq, Option.some.injEq, Prod.mk.injEq, Bool.false_eq_true, Bool.true_eq_false, and_self, and_true, true_and, and_false, false_and, or_false, or_true, false_or, true_or, Bool.and_self, Bool.and_true, Bool.true_and, Bool.false_and, Bool.and_false, Bool.false_or, Bool.or_false, Bool.true_or, Bool.or_true, Bool.not_true, Bool.not_false, not_false_eq_true, not_true_eq_false, ne_eq, decide_true, decide_false, decide_eq_true_eq, forall_const, List.cons_append, List.nil_append, List.length_cons, List.length_nil, List.size_toArray, List.setIfInBounds_toArray, List.set_cons_zero, List.set_cons_succ, List.getElem?_toArray, List.getElem?_cons_zero, List.getElem?_cons_succ, List.extract_toArray, List.extract_eq_take_drop, List.drop_zero, List.drop_succ_cons, List.drop_nil, List.take_zero, List.take_succ_cons, List.take_nil, Nat.zero_add, Nat.add_zero, Int.reduceToNat, Int.reduceLT, Int.reduceLE, Int.reduceEq, Int.reduceNeg, Int.reduceBEq, Int.reduceBNe, Array.size_push, Int.natCast_nonneg, Int.toNat_natCast, beq_false, beq_true, bne_self_eq_false, beq_self_eq_true, Bool.not_eq_false', beq_eq_false_iff_ne, String.reduceEq, Int.lt_irrefl, Nat.lt_irrefl, getP, getS, setP, setS, sizeS, Nat.left_eq_add, Nat.add_eq_left, Nat.add_right_cancel_iff, Nat.add_left_cancel_iff, Nat.lt_add_one, Nat.succ_ne_self, Nat.one_ne_zero,  nil_str, Option.isNone_some, Option.isNone_none, Option.isSome_some, Option.isSome_none, Bool.not_eq_true', decide_eq_false_iff_not, Bool.or_eq_true, Bool.and_eq_true, beq_iff_eq, bne_iff_ne, tyS, hlt, hpb1, hz0, hz1, hz2, hz3, hz4, addr_add, hδ, hx, wL, wK, hK', wD, wS, wN, w01, wi, c1, c2]
          exact LoopAt.weak (ih h3 g3 (i + 1) C (day + δ) (0) (0) (by omega) hw hc3 (by omega) (by omega) (by omega) (by omega)) ⟨rfl, rfl, rfl, rfl, rfl, rfl, rfl, rfl, rfl, rfl, trivial⟩
        · rename_i q2
          have hcond : ¬ (L < 0 + x ∨ M < 0 + 1) := by omega
          refine (use_h b C (day + δ) x h2 hcC hw.ok).mono ?_
          rintro _ h3 ⟨rfl, gg⟩
          have hw2 := hw.used hd hxb hcond
          rw [hw.use hd hxb, if_neg hcond]
          have hc3 := gg.get (got (lt_of_get hcC) _)
          have g3 := (g2.set hb _).trans gg
          clear gg
          simp only [argE_nil, argE_cons, ↓vmD, vmV, List.toList_toArray, ↓reduceIte, Nat.reduceAdd, Nat.reduceSub, Nat.reduceEqDiff, Nat.reduceLT, Nat.reduceLeDiff, reduceCtorEq, Option.some.injEq, Prod.mk.injEq, Bool.false_eq_true, Bool.true_eq_false, and_self, and_true, true_and, and_false, false_and, or_false, or_true, false_or, true_or, Bool.and_self, Bool.and_true, Bool.true_and, Bool.false_and, Bool.and_false, Bool.false_or, Bool.or_false, Bool.true_or, Bool.or_true, Bool.not_true, Bool.not_false, not_false_eq_true, not_true_eq_false, ne_eq, decide_true, decide_false, decide_eq_true_eq, forall_const, List.cons_append, List.nil_append, List.length_cons, List.length_nil, List.size_toArray, List.setIfInBounds_toArray, List.set_cons_zero, List.set_cons_succ, List.getElem?_toArray, List.getElem?_cons_zero, List.getElem?_cons_succ, List.extract_toArray, List.extract_eq_take_drop, List.drop_zero, List.drop_succ_cons, List.drop_nil, List.take_zero, List.take_succ_cons, List.take_nil, Nat.zero_add, Nat.add_zero, Int.reduceToNat, Int.reduceLT, Int.reduceLE, Int.reduceEq, Int.reduceNeg, Int.reduceBEq, Int.reduceBNe, Array.size_push, Int.natCast_nonneg, Int.toNat_natCast, beq_false, beq_true, bne_self_eq_false, beq_self_eq_true, Bool.not_eq_false', beq_eq_false_iff_ne, String.reduceEq, Int.lt_irrefl, Nat.lt_irrefl, getP, getS, setP, setS, sizeS, Nat.left_eq_add, Nat.add_eq_left, Nat.add_right_cancel_iff, Nat.add_left_cancel_iff, Nat.lt_add_one, Nat.succ_ne_self, Nat.one_ne_zero,  nil_str, Option.isNone_some, Option.isNone_none, Option.isSome_some, Option.isSome_none, Bool.not_eq_true', decide_eq_false_iff_not, Bool.or_eq_true, Bool.and_eq_true, beq_iff_eq, bne_iff_ne, tyS, hlt, hpb1, hz0, hz1, hz2, hz3, hz4, addr_add, hδ, hx, wL, wK, hK', wD, wS, wN, w01, wi]
          refine (used_h b _ (day + δ) h3 hc3 hw2.ok).mono ?_
          rintro _ h3 ⟨rfl, rfl⟩
          rw [hw2.su, hw2.co]
          have c1 : (L < 0 + x) = False := by simp; omega
          have c2 : (M < 0 + 1) = False := by simp; omega
          simp only [Int.zero_add] at c1 c2 hw2 ⊢
          simp only [argE_nil, argE_cons, ↓vmD, vmV, List.toList_toArray, ↓reduceIte, Nat.reduceAdd, Nat.reduceSub, Nat.reduceEqDiff, Nat.reduceLT, Nat.reduceLeDiff, reduceCtorEq, Option.some.injEq, Prod.mk.injEq, Bool.false_eq_true, Bool.true_eq_false, and_self, and_true, true_and, and_false, false_and, or_false, or_true, false_or, true_or, Bool.and_self, Bool.and_true, Bool.true_and, Bool.false_and, Bool.and_false, Bool.false_or, Bool.or_false, Bool.true_or, Bool.or_true, Bool.not_true, Bool.not_false, not_false_eq_true, not_true_eq_false, ne_eq, decide_true, decide_false, decide_eq_true_eq, forall_const, List.cons_append, List.nil_append, List.length_cons, List.length_nil, List.size_toArray, List.setIfInBounds_toArray, List.set_cons_zero, List.set_cons_succ, List.getElem?_toArray, List.getElem?_cons_zero, List.getElem?_cons_succ, List.extract_toArray, List.extract_eq_take_drop, List.drop_zero, List.drop_succ_cons, List.drop_nil, List.take_zero, List.take_succ_cons, List.take_nil, Nat.zero_add, Nat.add_zero, Int.reduceToNat, Int.reduceLT, Int.reduceLE, Int.reduceEq, Int.reduceNeg, Int.reduceBEq, Int.reduceBNe, Array.size_push, Int.natCast_nonneg, Int.toNat_natCast, beq_false, beq_true, bne_self_eq_false, beq_self_eq_true, Bool.not_eq_false', beq_eq_false_iff_ne, String.reduceEq, Int.lt_irrefl, Nat.lt_irrefl, getP, getS, setP, setS, sizeS, Nat.left_eq_add, Nat.add_eq_left, Nat.add_right_cancel_iff, Nat.add_left_cancel_iff, Nat.lt_add_one, Nat.succ_ne_self, Nat.one_ne_zero,  nil_str, Option.isNone_some, Option.isNone_none, Option.isSome_some, Option.isSome_none, Bool.not_eq_true', decide_eq_false_iff_not, Bool.or_eq_true, Bool.and_eq_true, beq_iff_eq, bne_iff_ne, tyS, hlt, hpb1, hz0, hz1, hz2, hz3, hz4, addr_add, hδ, hx, wL, wK, hK', wD, wS, wN, w01, wi, c1, c2]
          exact LoopAt.weak (ih h3 g3 (i + 1) _ (day + δ) _ _ (by omega) hw2 hc3 (by omega) (by omega) (by omega) (by omega)) ⟨rfl, rfl, rfl, rfl, rfl, rfl, rfl, rfl, rfl, rfl, trivial⟩
      · rename_i q1
        have hcond : L < 0 + x ∨ M < 0 + 1 := by omega
        refine (use_h b C (day + δ) x h2 hcC hw.ok).mono ?_
        rintro _ h3 ⟨rfl, gg⟩
        rw [hw.use hd hxb, if_pos hcond]
        rw [hw.kept hd hxb hcond, set_get hcC] at gg
        have hc3 := gg.get hcC
        have g3 := g2.trans gg
        simp only [argE_nil, argE_cons, ↓vmD, vmV, List.toList_toArray, ↓reduceIte, Nat.reduceAdd, Nat.reduceSub, Nat.reduceEqDiff, Nat.reduceLT, Nat.reduceLeDiff, reduceCtorEq, Option.some.injEq, Prod.mk.injEq, Bool.false_eq_true, Bool.true_eq_false, and_self, and_true, true_and, and_false, false_and, or_false, or_true, false_or, true_or, Bool.and_self, Bool.and_true, Bool.true_and, Bool.false_and, Bool.and_false, Bool.false_or, Bool.or_false, Bool.true_or, Bool.or_true, Bool.not_true, Bool.not_false, not_false_eq_true, not_true_eq_false, ne_eq, decide_true, decide_false, decide_eq_true_eq, forall_const, List.cons_append, List.nil_append, List.length_cons, List.length_nil, List.size_toArray, List.setIfInBounds_toArray, List.set_cons_zero, List.set_cons_succ, List.getElem?_toArray, List.getElem?_cons_zero, List.getElem?_cons_succ, List.extract_toArray, List.extract_eq_take_drop, List.drop_zero, List.drop_succ_cons, List.drop_nil, List.take_zero, List.take_succ_cons, List.take_nil, Nat.zero_add, Nat.add_zero, Int.reduceToNat, Int.reduceLT, Int.reduceLE, Int.reduceEq, Int.reduceNeg, Int.reduceBEq, Int.reduceBNe, Array.size_push, Int.natCast_nonneg, Int.toNat_natCast, beq_false, beq_true, bne_self_eq_false, beq_self_eq_true, Bool.not_eq_false', beq_eq_false_iff_ne, String.reduceEq, Int.lt_irrefl, Nat.lt_irrefl, getP, getS, setP, setS, sizeS, Nat.left_eq_add, Nat.add_eq_left, Nat.add_right_cancel_iff, Nat.add_left_cancel_iff, Nat.lt_add_one, Nat.succ_ne_self, Nat.one_ne_zero,  nil_str, Option.isNone_some, Option.isNone_none, Option.isSome_some, Option.isSome_none, Bool.not_eq_true', decide_eq_false_iff_not, Bool.or_eq_true, Bool.and_eq_true, beq_iff_eq, bne_iff_ne, tyS, hlt, hpb1, hz0, hz1, hz2, hz3, hz4, addr_add, hδ, hx, wL, wK, hK', wD, wS, wN, w01, wi]
        refine (used_h b C (day + δ) h3 hc3 hw.ok).mono ?_
        rintro _ h3 ⟨rfl, rfl⟩
        rw [hw.su, hw.co]
        have c1 : (L < 0) = False := by simp; omega
        have c2 : (M < 0) = False := by simp; omega
        simp only [argE_nil, argE_cons, ↓vmD, vmV, List.toList_toArray, ↓reduceIte, Nat.reduceAdd, Nat.reduceSub, Nat.reduceEqDiff, Nat.reduceLT, Nat.reduceLeDiff, reduceCtorEq, Option.some.injEq, Prod.mk.injEq, Bool.false_eq_true, Bool.true_eq_false, and_self, and_true, true_and, and_false, false_and, or_false, or_true, false_or, true_or, Bool.and_self, Bool.and_true, Bool.true_and, Bool.false_and, Bool.and_false, Bool.false_or, Bool.or_false, Bool.true_or, Bool.or_true, Bool.not_true, Bool.not_false, not_false_eq_true, not_true_eq_false, ne_eq, decide_true, decide_false, decide_eq_true_eq, forall_const, List.cons_append, List.nil_append, List.length_cons, List.length_nil, List.size_toArray, List.setIfInBounds_toArray, List.set_cons_zero, List.set_cons_succ, List.getElem?_toArray, List.getElem?_cons_zero, List.getElem?_cons_succ, List.extract_toArray, List.extract_eq_take_drop, List.drop_zero, List.drop_succ_cons, List.drop_nil, List.take_zero, List.take_succ_cons, List.take_nil, Nat.zero_add, Nat.add_zero, Int.reduceToNat, Int.reduceLT, Int.reduceLE, Int.reduceEq, Int.reduceNeg, Int.reduceBEq, Int.reduceBNe, Array.size_push, Int.natCast_nonneg, Int.toNat_natCast, beq_false, beq_true, bne_self_eq_false, beq_self_eq_true, Bool.not_eq_false', beq_eq_false_iff_ne, String.reduceEq, Int.lt_irrefl, Nat.lt_irrefl, getP, getS, setP, setS, sizeS, Nat.left_eq_add, Nat.add_eq_left, Nat.add_right_cancel_iff, Nat.add_left_cancel_iff, Nat.lt_add_one, Nat.succ_ne_self, Nat.one_ne_zero,  nil_str, Option.isNone_some, Option.isNone_none, Option.isSome_some, Option.isSome_none, Bool.not_eq_true', decide_eq_false_iff_not, Bool.or_eq_true, Bool.and_eq_true, beq_iff_eq, bne_iff_ne, tyS, hlt, hpb1, hz0, hz1, hz2, hz3, hz4, addr_add, hδ, hx, wL, wK, hK', wD, wS, wN, w01, wi, c1, c2]
        exact LoopAt.weak (ih h3 g3 (i + 1) C (day + δ) (0) (0) (by omega) hw hc3 (by omega) (by omega) (by omega) (by omega)) ⟨rfl, rfl, rfl, rfl, rfl, rfl, rfl, rfl, rfl, rfl, trivial⟩
theorem inSteps {h : Heap} {p : Option Addr} {len cap : Nat} (w : Fits h (.sl 4 (.st 4 [(0, 1, .int .u8), (1, 1, .int .i64), (2, 1, .int .i64), (3, 1, .int .i64)])) [.slice p len cap]) : InSteps h p len ∧ len ≤ 9223372036854775807 := by
  obtain ⟨p', len', cap', hv, h1, h2, h3⟩ := slice_fits (v := .slice p len cap) (by decide) w (fun c => by simp)
  simp only [Value.slice.injEq] at hv
  obtain ⟨rfl, rfl, rfl⟩ := hv
  refine ⟨?_, by simp only [maxLen] at h2; omega⟩
  rcases h3 with h3 | ⟨b, off, c, e, fr, rfl, hb, hc⟩
  · exact .inl h3
  · refine .inr ⟨b, off, c, e, fr, rfl, hb, fun i hi => ?_⟩
    obtain ⟨es, e1, e2, e3, e4⟩ := hc i hi
    unfold Fits at e4
    simp only [FitsL] at e4
    obtain ⟨hl, f0, f1, f2, f3, _⟩ := e4
    obtain ⟨x, k0, _⟩ := f0
    obtain ⟨y, k1, _⟩ := f1
    obtain ⟨z, k2, _⟩ := f2
    obtain ⟨u, k3, _⟩ := f3
    have : ∃ a0 a1 a2 a3, es = [a0, a1, a2, a3] := by
      match es, hl with
      | [a0, a1, a2, a3], _ => exact ⟨a0, a1, a2, a3, rfl⟩
    obtain ⟨a0, a1, a2, a3, rfl⟩ := this
    simp at k0 k1 k2 k3
    subst k0 k1 k2 k3
    have c0 := e2 0 (by decide); have c1 := e2 1 (by decide); have c2 := e2 2 (by decide); have c3 := e2 3 (by decide)
    simp at c0 c1 c2 c3
    refine ⟨x, y, z, u, c0, c1, c2, c3, ?_⟩
    simp only [rdCS, if_pos e3]
    congr 1
    apply Array.ext'
    apply List.ext_getElem?
    intro j
    simp
    rcases j with _ | _ | _ | _ | j
    · simpa using c0
    · simpa using c1
    · simpa using c2
    · simpa using c3
    · simp; omega
theorem limits_w (h : Heap) (L : Int) (wL : (Lit.int .u8 L).wf = true) (K : Int) (wK : (Lit.int .u8 K).wf = true) (p : Option Addr) (len cap : Nat) (w : Fits h (.sl 4 (.st 4 [(0, 1, .int .u8), (1, 1, .int .i64), (2, 1, .int .i64), (3, 1, .int .i64)])) [.slice p len cap]) :
    CallsH Try.prog 4 #[.int .u8 L, .int .u8 K, .slice p len cap] h fun r h' => r = .returned (.bool true) ∧ Grew h h' := by
  simp [Lit.wf, IntKind.min, IntKind.max, IntKind.bits, IntKind.signed] at wL wK
  exact limits_h L K p len cap h (inSteps w).1 (inSteps w).2 (by omega) (by omega)
end Go.Proofs.Ytdpminnijcpghaa
