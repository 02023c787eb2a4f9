/-
CardClosed: the walk.
Conditions: the argument's cells hold numbers of a byte.
-/
import Derived.Test.YtdpminnijcpghaaAwake
import Derived.Test.YtdpminnijcpghaaVmOpen
namespace Go.Proofs.Ytdpminnijcpghaa
open Go.Vm
set_option linter.unusedSimpArgs false
set_option linter.unusedVariables false
set_option maxHeartbeats 1000000
set_option maxRecDepth 20000

/-- A slice of bytes that came in. -/
def InU8 (h : Heap) (p : Option Addr) (len : Nat) : Prop := len = 0 ∨ ∃ b off c e fr, p = some ⟨b, off, none⟩ ∧ h[b]? = some (.cells c e fr) ∧ ∀ i, i < len → ∃ n : Int, c[off + i]? = some (.int .u8 n) ∧ 0 ≤ n ∧ n ≤ 255
structure CInv (c : CS) (d : Int) (i : Nat) : Prop where
  ex : c.exp = 255
  st : 1 ≤ c.st ∧ c.st ≤ 4
  am : c.am = 1000
  cn : c.cn = 1000
  kn : c.kn = false → c.da = 0 ∧ c.co = 0
  kt : c.kn = true → c.da = d
  su : c.su = 0
  co : 0 ≤ c.co ∧ c.co ≤ i
theorem CInv.ok {c : CS} {d : Int} {i : Nat} (v : CInv c d i) (hi : i ≤ 100) (hd : 0 ≤ d ∧ d ≤ 255) : c.Ok := by
  have := v.am; have := v.cn; have := v.su; have := v.co
  refine ⟨by omega, by omega, by omega, by omega, fun h => ?_, ?_⟩
  · have := v.kn h; exact ⟨this.1, v.su, this.2⟩
  · cases hk : c.kn with
    | false => have := v.kn hk; omega
    | true => have := v.kt hk; omega
theorem CInv.do_ {c : CS} {d : Int} {i : Nat} (v : CInv c d i) (x : Int) : CInv (doC c x) d i := by
  unfold doC
  split
  · refine ⟨v.ex, ?_, v.am, v.cn, v.kn, v.kt, v.su, v.co⟩
    rename_i h
    simp only [nextF] at h ⊢
    grind
  · exact v
theorem CInv.useE {c : CS} {d : Int} {i : Nat} (v : CInv c d i) (hi : i ≤ 100) (hd : 0 ≤ d ∧ d ≤ 255) : useE c d 0 = if c.st = 2 then 0 else 17 := by
  have h1 := v.ex; have h2 := v.am; have h3 := v.cn; have h4 := v.su; have h5 := v.co; have h6 := v.kn; have h7 := v.kt
  have h8 : ¬ c.exp < d := by omega
  have h9 : d ≤ 99999 := by omega
  by_cases hs : c.st = 2
  · cases hk : c.kn with
    | false =>
      simp [Proofs.Ytdpminnijcpghaa.useE, usableF, dayC, hs, hk, dateOk, amtOk, hd.1, h8, h9, h2, h3]
    | true =>
      have := h7 hk
      have h10 : ¬ (1000 < c.co + 1) := by omega
      simp [Proofs.Ytdpminnijcpghaa.useE, usableF, dayC, hs, hk, this, dateOk, amtOk, hd.1, h8, h9, h2, h3, h4, h10]
  · simp [Proofs.Ytdpminnijcpghaa.useE, usableF, hs]
theorem CInv.useC {c : CS} {d : Int} {i : Nat} (v : CInv c d i) (hi : i ≤ 100) (hd : 0 ≤ d ∧ d ≤ 255) : CInv (useC c d 0) d (i + 1) ∧ (useC c d 0).st = c.st := by
  have h4 := v.su; have h5 := v.co; have h6 := v.kn; have h7 := v.kt
  unfold Proofs.Ytdpminnijcpghaa.useC
  split
  · unfold dayC
    cases hk : c.kn with
    | false => simp; exact ⟨v.ex, v.st, v.am, v.cn, by simp, by simp, by simp, by simp; omega⟩
    | true =>
      have := h7 hk
      simp [this]
      exact ⟨v.ex, v.st, v.am, v.cn, by simp [hk], by simp [this], by simpa using h4, by simp; omega⟩
  · exact ⟨⟨v.ex, v.st, v.am, v.cn, v.kn, v.kt, v.su, by omega⟩, rfl⟩
theorem closed_h (p : Option Addr) (len cap : Nat) (d : Int) (h : Heap) (hp : InU8 h p len) (hl : len ≤ 9223372036854775807) (hd : 0 ≤ d ∧ d ≤ 255) :
    CallsH Try.prog 6 #[.slice p len cap, .int .u8 d] h fun r h' => r = .returned (.bool true) ∧ Grew h h' := by
  have wd : IntKind.i64.wrap d = d := w_i64 (by omega) (by omega)
  refine callsH_of_den ⟨Try.prog, 6, Try.f6, 80, [0, 1, 4, 5, 6, 7, 8, 9, 10, 11], _⟩ (args := [_, _]) Try.func6 rfl Try.ntmps6 (by simp) ?_
  simp only [argE_nil, argE_cons, ↓vmD, vmV, List.toList_toArray, ↓reduceIte, Nat.reduceAdd, Nat.reduceSub, Nat.reduceEqDiff, Nat.reduceLT, Nat.reduceLeDiff, reduceCtorEq, Option.some.injEq, Prod.mk.injEq, Bool.false_eq_true, Bool.true_eq_false, and_self, and_true, true_and, and_false, false_and, or_false, or_true, false_or, true_or, Bool.and_self, Bool.and_true, Bool.true_and, Bool.false_and, Bool.and_false, Bool.false_or, Bool.or_false, Bool.true_or, Bool.or_true, Bool.not_true, Bool.not_false, not_false_eq_true, not_true_eq_false, ne_eq, decide_true, decide_false, decide_eq_true_eq, forall_const, List.cons_append, List.nil_append, List.length_cons, List.length_nil, List.size_toArray, List.setIfInBounds_toArray, List.set_cons_zero, List.set_cons_succ, List.getElem?_toArray, List.getElem?_cons_zero, List.getElem?_cons_succ, List.extract_toArray, List.extract_eq_take_drop, List.drop_zero, List.drop_succ_cons, List.drop_nil, List.take_zero, List.take_succ_cons, List.take_nil, Nat.zero_add, Nat.add_zero, Int.reduceToNat, Int.reduceLT, Int.reduceLE, Int.reduceEq, Int.reduceNeg, Int.reduceBEq, Int.reduceBNe, Array.size_push, Int.natCast_nonneg, Int.toNat_natCast, beq_false, beq_true, bne_self_eq_false, beq_self_eq_true, Bool.not_eq_false', beq_eq_false_iff_ne, String.reduceEq, Int.lt_irrefl, Nat.lt_irrefl, getP, getS, setP, setS, sizeS, Nat.left_eq_add, Nat.add_eq_left, Nat.add_right_cancel_iff, Nat.add_left_cancel_iff, Nat.lt_add_one, Nat.succ_ne_self, Nat.one_ne_zero,  nil_str, Option.isNone_some, Option.isNone_none, Option.isSome_some, Option.isSome_none, Bool.not_eq_true', decide_eq_false_iff_not, Bool.or_eq_true, Bool.and_eq_true, beq_iff_eq, bne_iff_ne, tyS, wd]
  refine (new_h sampleS 255 1000 1000 h).mono ?_
  have e0 : newE sampleS 255 1000 1000 = 0 := by simp [newE, chk_sample, dateOk, amtOk]
  rintro _ h1 (⟨-, b, hb, rfl, hc, g1, -⟩ | ⟨hn, -⟩)
  rotate_left
  · exact absurd e0 hn
  simp only [argE_nil, argE_cons, ↓vmD, vmV, List.toList_toArray, ↓reduceIte, Nat.reduceAdd, Nat.reduceSub, Nat.reduceEqDiff, Nat.reduceLT, Nat.reduceLeDiff, reduceCtorEq, Option.some.injEq, Prod.mk.injEq, Bool.false_eq_true, Bool.true_eq_false, and_self, and_true, true_and, and_false, false_and, or_false, or_true, false_or, true_or, Bool.and_self, Bool.and_true, Bool.true_and, Bool.false_and, Bool.and_false, Bool.false_or, Bool.or_false, Bool.true_or, Bool.or_true, Bool.not_true, Bool.not_false, not_false_eq_true, not_true_eq_false, ne_eq, decide_true, decide_false, decide_eq_true_eq, forall_const, List.cons_append, List.nil_append, List.length_cons, List.length_nil, List.size_toArray, List.setIfInBounds_toArray, List.set_cons_zero, List.set_cons_succ, List.getElem?_toArray, List.getElem?_cons_zero, List.getElem?_cons_succ, List.extract_toArray, List.extract_eq_take_drop, List.drop_zero, List.drop_succ_cons, List.drop_nil, List.take_zero, List.take_succ_cons, List.take_nil, Nat.zero_add, Nat.add_zero, Int.reduceToNat, Int.reduceLT, Int.reduceLE, Int.reduceEq, Int.reduceNeg, Int.reduceBEq, Int.reduceBNe, Array.size_push, Int.natCast_nonneg, Int.toNat_natCast, beq_false, beq_true, bne_self_eq_false, beq_self_eq_true, Bool.not_eq_false', beq_eq_false_iff_ne, String.reduceEq, Int.lt_irrefl, Nat.lt_irrefl, getP, getS, setP, setS, sizeS, Nat.left_eq_add, Nat.add_eq_left, Nat.add_right_cancel_iff, Nat.add_left_cancel_iff, Nat.lt_add_one, Nat.succ_ne_self, Nat.one_ne_zero,  nil_str, Option.isNone_some, Option.isNone_none, Option.isSome_some, Option.isSome_none, Bool.not_eq_true', decide_eq_false_iff_not, Bool.or_eq_true, Bool.and_eq_true, beq_iff_eq, bne_iff_ne, tyS, wd]
  split
  · refine (awake_h h1).mono ?_
    rintro _ h2 ⟨rfl, gg⟩
    simp only [argE_nil, argE_cons, ↓vmD, vmV, List.toList_toArray, ↓reduceIte, Nat.reduceAdd, Nat.reduceSub, Nat.reduceEqDiff, Nat.reduceLT, Nat.reduceLeDiff, reduceCtorEq, Option.some.injEq, Prod.mk.injEq, Bool.false_eq_true, Bool.true_eq_false, and_self, and_true, true_and, and_false, false_and, or_false, or_true, false_or, true_or, Bool.and_self, Bool.and_true, Bool.true_and, Bool.false_and, Bool.and_false, Bool.false_or, Bool.or_false, Bool.true_or, Bool.or_true, Bool.not_true, Bool.not_false, not_false_eq_true, not_true_eq_false, ne_eq, decide_true, decide_false, decide_eq_true_eq, forall_const, List.cons_append, List.nil_append, List.length_cons, List.length_nil, List.size_toArray, List.setIfInBounds_toArray, List.set_cons_zero, List.set_cons_succ, List.getElem?_toArray, List.getElem?_cons_zero, List.getElem?_cons_succ, List.extract_toArray, List.extract_eq_take_drop, List.drop_zero, List.drop_succ_cons, List.drop_nil, List.take_zero, List.take_succ_cons, List.take_nil, Nat.zero_add, Nat.add_zero, Int.reduceToNat, Int.reduceLT, Int.reduceLE, Int.reduceEq, Int.reduceNeg, Int.reduceBEq, Int.reduceBNe, Array.size_push, Int.natCast_nonneg, Int.toNat_natCast, beq_false, beq_true, bne_self_eq_false, beq_self_eq_true, Bool.not_eq_false', beq_eq_false_iff_ne, String.reduceEq, Int.lt_irrefl, Nat.lt_irrefl, getP, getS, setP, setS, sizeS, Nat.left_eq_add, Nat.add_eq_left, Nat.add_right_cancel_iff, Nat.add_left_cancel_iff, Nat.lt_add_one, Nat.succ_ne_self, Nat.one_ne_zero,  nil_str, Option.isNone_some, Option.isNone_none, Option.isSome_some, Option.isSome_none, Bool.not_eq_true', decide_eq_false_iff_not, Bool.or_eq_true, Bool.and_eq_true, beq_iff_eq, bne_iff_ne, tyS]
    exact g1.trans gg
  rename_i h40
  have h40' : len ≤ 40 := by omega
  obtain ⟨i, C, cl, he, hi, hcl, hv, hcC, hle⟩ : ∃ (i : Nat) (C : CS) (cl : Bool), (i = 0 ∧ cl = false) ∧ (i ≤ len) ∧ (cl = decide (C.st = 4)) ∧ CInv C d i ∧ h1[b]? = some C.obj ∧ len - i ≤ len :=
    ⟨0, newC sampleS 255 1000 1000, false, ⟨rfl, rfl⟩, by omega, rfl, ⟨rfl, by simp [newC], rfl, rfl, by simp [newC], by simp [newC], rfl, by simp [newC]⟩, hc, by omega⟩
  rw [show (8, some (Value.int .i64 0)) = (8, some (Value.int .i64 (i : Int))) by rw [he.1]; rfl, show (7, some (Value.bool false)) = (7, some (Value.bool cl)) by rw [he.2]]
  clear he hc
  generalize hm : len - i = m at hle
  clear hle
  induction m generalizing i C cl h1 with
  | zero =>
    have hlt : ((i : Int) < (len : Int)) = False := by simp; omega
    refine LoopAt.intro ?_
    simp only [argE_nil, argE_cons, ↓vmD, vmV, List.toList_toArray, ↓reduceIte, Nat.reduceAdd, Nat.reduceSub, Nat.reduceEqDiff, Nat.reduceLT, Nat.reduceLeDiff, reduceCtorEq, Option.some.injEq, Prod.mk.injEq, Bool.false_eq_true, Bool.true_eq_false, and_self, and_true, true_and, and_false, false_and, or_false, or_true, false_or, true_or, Bool.and_self, Bool.and_true, Bool.true_and, Bool.false_and, Bool.and_false, Bool.false_or, Bool.or_false, Bool.true_or, Bool.or_true, Bool.not_true, Bool.not_false, not_false_eq_true, not_true_eq_false, ne_eq, decide_true, decide_false, decide_eq_true_eq, forall_const, List.cons_append, List.nil_append, List.length_cons, List.length_nil, List.size_toArray, List.setIfInBounds_toArray, List.set_cons_zero, List.set_cons_succ, List.getElem?_toArray, List.getElem?_cons_zero, List.getElem?_cons_succ, List.extract_toArray, List.extract_eq_take_drop, List.drop_zero, List.drop_succ_cons, List.drop_nil, List.take_zero, List.take_succ_cons, List.take_nil, Nat.zero_add, Nat.add_zero, Int.reduceToNat, Int.reduceLT, Int.reduceLE, Int.reduceEq, Int.reduceNeg, Int.reduceBEq, Int.reduceBNe, Array.size_push, Int.natCast_nonneg, Int.toNat_natCast, beq_false, beq_true, bne_self_eq_false, beq_self_eq_true, Bool.not_eq_false', beq_eq_false_iff_ne, String.reduceEq, Int.lt_irrefl, Nat.lt_irrefl, getP, getS, setP, setS, sizeS, Nat.left_eq_add, Nat.add_eq_left, Nat.add_right_cancel_iff, Nat.add_left_cancel_iff, Nat.lt_add_one, Nat.succ_ne_self, Nat.one_ne_zero,  nil_str, Option.isNone_some, Option.isNone_none, Option.isSome_some, Option.isSome_none, Bool.not_eq_true', decide_eq_false_iff_not, Bool.or_eq_true, Bool.and_eq_true, beq_iff_eq, bne_iff_ne, tyS, hlt]
    refine (awake_h h1).mono ?_
    rintro _ h2 ⟨rfl, gg⟩
    simp only [argE_nil, argE_cons, ↓vmD, vmV, List.toList_toArray, ↓reduceIte, Nat.reduceAdd, Nat.reduceSub, Nat.reduceEqDiff, Nat.reduceLT, Nat.reduceLeDiff, reduceCtorEq, Option.some.injEq, Prod.mk.injEq, Bool.false_eq_true, Bool.true_eq_false, and_self, and_true, true_and, and_false, false_and, or_false, or_true, false_or, true_or, Bool.and_self, Bool.and_true, Bool.true_and, Bool.false_and, Bool.and_false, Bool.false_or, Bool.or_false, Bool.true_or, Bool.or_true, Bool.not_true, Bool.not_false, not_false_eq_true, not_true_eq_false, ne_eq, decide_true, decide_false, decide_eq_true_eq, forall_const, List.cons_append, List.nil_append, List.length_cons, List.length_nil, List.size_toArray, List.setIfInBounds_toArray, List.set_cons_zero, List.set_cons_succ, List.getElem?_toArray, List.getElem?_cons_zero, List.getElem?_cons_succ, List.extract_toArray, List.extract_eq_take_drop, List.drop_zero, List.drop_succ_cons, List.drop_nil, List.take_zero, List.take_succ_cons, List.take_nil, Nat.zero_add, Nat.add_zero, Int.reduceToNat, Int.reduceLT, Int.reduceLE, Int.reduceEq, Int.reduceNeg, Int.reduceBEq, Int.reduceBNe, Array.size_push, Int.natCast_nonneg, Int.toNat_natCast, beq_false, beq_true, bne_self_eq_false, beq_self_eq_true, Bool.not_eq_false', beq_eq_false_iff_ne, String.reduceEq, Int.lt_irrefl, Nat.lt_irrefl, getP, getS, setP, setS, sizeS, Nat.left_eq_add, Nat.add_eq_left, Nat.add_right_cancel_iff, Nat.add_left_cancel_iff, Nat.lt_add_one, Nat.succ_ne_self, Nat.one_ne_zero,  nil_str, Option.isNone_some, Option.isNone_none, Option.isSome_some, Option.isSome_none, Bool.not_eq_true', decide_eq_false_iff_not, Bool.or_eq_true, Bool.and_eq_true, beq_iff_eq, bne_iff_ne, tyS]
    exact g1.trans gg
  | succ m ih =>
    have hlt : ((i : Int) < (len : Int)) = True := by simp; omega
    rcases hp with hp | ⟨pb, off, pc, pe, pf, rfl, hpb, hcells⟩
    · omega
    obtain ⟨z, hz, hz0, hz1⟩ := hcells i (by omega)
    have hpb1 := g1.get hpb
    refine LoopAt.intro ?_
    simp only [argE_nil, argE_cons, ↓vmD, vmV, List.toList_toArray, ↓reduceIte, Nat.reduceAdd, Nat.reduceSub, Nat.reduceEqDiff, Nat.reduceLT, Nat.reduceLeDiff, reduceCtorEq, Option.some.injEq, Prod.mk.injEq, Bool.false_eq_true, Bool.true_eq_false, and_self, and_true, true_and, and_false, false_and, or_false, or_true, false_or, true_or, Bool.and_self, Bool.and_true, Bool.true_and, Bool.false_and, Bool.and_false, Bool.false_or, Bool.or_false, Bool.true_or, Bool.or_true, Bool.not_true, Bool.not_false, not_false_eq_true, not_true_eq_false, ne_eq, decide_true, decide_false, decide_eq_true_eq, forall_const, List.cons_append, List.nil_append, List.length_cons, List.length_nil, List.size_toArray, List.setIfInBounds_toArray, List.set_cons_zero, List.set_cons_succ, List.getElem?_toArray, List.getElem?_cons_zero, List.getElem?_cons_succ, List.extract_toArray, List.extract_eq_take_drop, List.drop_zero, List.drop_succ_cons, List.drop_nil, List.take_zero, List.take_succ_cons, List.take_nil, Nat.zero_add, Nat.add_zero, Int.reduceToNat, Int.reduceLT, Int.reduceLE, Int.reduceEq, Int.reduceNeg, Int.reduceBEq, Int.reduceBNe, Array.size_push, Int.natCast_nonneg, Int.toNat_natCast, beq_false, beq_true, bne_self_eq_false, beq_self_eq_true, Bool.not_eq_false', beq_eq_false_iff_ne, String.reduceEq, Int.lt_irrefl, Nat.lt_irrefl, getP, getS, setP, setS, sizeS, Nat.left_eq_add, Nat.add_eq_left, Nat.add_right_cancel_iff, Nat.add_left_cancel_iff, Nat.lt_add_one, Nat.succ_ne_self, Nat.one_ne_zero,  nil_str, Option.isNone_some, Option.isNone_none, Option.isSome_some, Option.isSome_none, Bool.not_eq_true', decide_eq_false_iff_not, Bool.or_eq_true, Bool.and_eq_true, beq_iff_eq, bne_iff_ne, tyS, hlt, hpb1, hz, addr_add, Nat.mul_one]
    have wx : IntKind.i64.wrap (1 + IntKind.i64.wrap (z.tmod 4)) = 1 + z % 4 := by
      rw [Int.tmod_eq_emod_of_nonneg hz0, w_i64 (n := z % 4) (by omega) (by omega), w_i64 (by omega) (by omega)]
    have wi : IntKind.i64.wrap ((i : Int) + 1) = ((i + 1 : Nat) : Int) := by rw [w_i64 (by omega) (by omega)]; omega
    rw [wx]
    generalize hx : 1 + z % 4 = x
    have hx1 : 1 ≤ x ∧ x ≤ 4 := by omega
    refine (do_h b C x h1 hcC).mono ?_
    rintro _ h2 ⟨rfl, hq⟩
    have hc2 := got (lt_of_get hcC) (doC C x).obj
    have g2 := g1.set hb (doC C x).obj
    rw [← hq] at hc2 g2
    clear hq
    have v2 := hv.do_ x
    have hst := hv.st
    have hn : C.st = 4 → (nextF C.st x).2 = 8 := by intro h4; simp only [nextF]; grind
    have hcl2 : (cl || x == 4) = decide ((doC C x).st = 4) := by
      subst hcl
      rw [Bool.eq_iff_iff]
      simp only [doC, nextF, Bool.or_eq_true, beq_iff_eq, decide_eq_true_eq]
      grind
    simp only [argE_nil, argE_cons, ↓vmD, vmV, List.toList_toArray, ↓reduceIte, Nat.reduceAdd, Nat.reduceSub, Nat.reduceEqDiff, Nat.reduceLT, Nat.reduceLeDiff, reduceCtorEq, Option.some.injEq, Prod.mk.injEq, Bool.false_eq_true, Bool.true_eq_false, and_self, and_true, true_and, and_false, false_and, or_false, or_true, false_or, true_or, Bool.and_self, Bool.and_true, Bool.true_and, Bool.false_and, Bool.and_false, Bool.false_or, Bool.or_false, Bool.true_or, Bool.or_true, Bool.not_true, Bool.not_false, not_false_eq_true, not_true_eq_false, ne_eq, decide_true, decide_false, decide_eq_true_eq, forall_const, List.cons_append, List.nil_append, List.length_cons, List.length_nil, List.size_toArray, List.setIfInBounds_toArray, List.set_cons_zero, List.set_cons_succ, List.getElem?_toArray, List.getElem?_cons_zero, List.getElem?_cons_succ, List.extract_toArray, List.extract_eq_take_drop, List.drop_zero, List.drop_succ_cons, List.drop_nil, List.take_zero, List.take_succ_cons, List.take_nil, Nat.zero_add, Nat.add_zero, Int.reduceToNat, Int.reduceLT, Int.reduceLE, Int.reduceEq, Int.reduceNeg, Int.reduceBEq, Int.reduceBNe, Array.size_push, Int.natCast_nonneg, Int.toNat_natCast, beq_false, beq_true, bne_self_eq_false, beq_self_eq_true, Bool.not_eq_false', beq_eq_false_iff_ne, String.reduceEq, Int.lt_irrefl, Nat.lt_irrefl, getP, getS, setP, setS, sizeS, Nat.left_eq_add, Nat.add_eq_left, Nat.add_right_cancel_iff, Nat.add_left_cancel_iff, Nat.lt_add_one, Nat.succ_ne_self, Nat.one_ne_zero,  nil_str, Option.isNone_some, Option.isNone_none, Option.isSome_some, Option.isSome_none, Bool.not_eq_true', decide_eq_false_iff_not, Bool.or_eq_true, Bool.and_eq_true, beq_iff_eq, bne_iff_ne, tyS, wd, wi]
    rw [if_neg (by rintro ⟨h5, h6⟩; rw [hcl] at h5; exact h6 (hn (by simpa using h5)))]
    rw [hcl2]
    generalize hD : doC C x = D at hc2 g2 v2 hcl2
    refine (state_h b D h2 hc2).mono ?_
    rintro _ h2 ⟨rfl, rfl⟩
    simp only [argE_nil, argE_cons, ↓vmD, vmV, List.toList_toArray, ↓reduceIte, Nat.reduceAdd, Nat.reduceSub, Nat.reduceEqDiff, Nat.reduceLT, Nat.reduceLeDiff, reduceCtorEq, Option.some.injEq, Prod.mk.injEq, Bool.false_eq_true, Bool.true_eq_false, and_self, and_true, true_and, and_false, false_and, or_false, or_true, false_or, true_or, Bool.and_self, Bool.and_true, Bool.true_and, Bool.false_and, Bool.and_false, Bool.false_or, Bool.or_false, Bool.true_or, Bool.or_true, Bool.not_true, Bool.not_false, not_false_eq_true, not_true_eq_false, ne_eq, decide_true, decide_false, decide_eq_true_eq, forall_const, List.cons_append, List.nil_append, List.length_cons, List.length_nil, List.size_toArray, List.setIfInBounds_toArray, List.set_cons_zero, List.set_cons_succ, List.getElem?_toArray, List.getElem?_cons_zero, List.getElem?_cons_succ, List.extract_toArray, List.extract_eq_take_drop, List.drop_zero, List.drop_succ_cons, List.drop_nil, List.take_zero, List.take_succ_cons, List.take_nil, Nat.zero_add, Nat.add_zero, Int.reduceToNat, Int.reduceLT, Int.reduceLE, Int.reduceEq, Int.reduceNeg, Int.reduceBEq, Int.reduceBNe, Array.size_push, Int.natCast_nonneg, Int.toNat_natCast, beq_false, beq_true, bne_self_eq_false, beq_self_eq_true, Bool.not_eq_false', beq_eq_false_iff_ne, String.reduceEq, Int.lt_irrefl, Nat.lt_irrefl, getP, getS, setP, setS, sizeS, Nat.left_eq_add, Nat.add_eq_left, Nat.add_right_cancel_iff, Nat.add_left_cancel_iff, Nat.lt_add_one, Nat.succ_ne_self, Nat.one_ne_zero,  nil_str, Option.isNone_some, Option.isNone_none, Option.isSome_some, Option.isSome_none, Bool.not_eq_true', decide_eq_false_iff_not, Bool.or_eq_true, Bool.and_eq_true, beq_iff_eq, bne_iff_ne, tyS, wd, wi]
    rw [if_neg (by intro h5; exact h5 (by rw [Bool.eq_iff_iff]; simp))]
    refine (use_h b D d 0 h2 hc2 (v2.ok (by omega) hd)).mono ?_
    rintro _ h3 ⟨rfl, gg⟩
    obtain ⟨v3, hs3⟩ := v2.useC (by omega) hd
    rw [v2.useE (by omega) hd]
    have hc3 := gg.get (got (lt_of_get hc2) _)
    have g3 := (g2.set hb _).trans gg
    clear gg
    rw [← hs3]
    generalize hE : useC D d 0 = E at hc3 v3 hs3
    have key := ih h3 g3 (i + 1) E (decide (E.st = 4)) (by omega) rfl v3 hc3 (by omega)
    by_cases h22 : E.st = 2
    · rw [if_pos h22]
      simp only [argE_nil, argE_cons, ↓vmD, vmV, List.toList_toArray, ↓reduceIte, Nat.reduceAdd, Nat.reduceSub, Nat.reduceEqDiff, Nat.reduceLT, Nat.reduceLeDiff, reduceCtorEq, Option.some.injEq, Prod.mk.injEq, Bool.false_eq_true, Bool.true_eq_false, and_self, and_true, true_and, and_false, false_and, or_false, or_true, false_or, true_or, Bool.and_self, Bool.and_true, Bool.true_and, Bool.false_and, Bool.and_false, Bool.false_or, Bool.or_false, Bool.true_or, Bool.or_true, Bool.not_true, Bool.not_false, not_false_eq_true, not_true_eq_false, ne_eq, decide_true, decide_false, decide_eq_true_eq, forall_const, List.cons_append, List.nil_append, List.length_cons, List.length_nil, List.size_toArray, List.setIfInBounds_toArray, List.set_cons_zero, List.set_cons_succ, List.getElem?_toArray, List.getElem?_cons_zero, List.getElem?_cons_succ, List.extract_toArray, List.extract_eq_take_drop, List.drop_zero, List.drop_succ_cons, List.drop_nil, List.take_zero, List.take_succ_cons, List.take_nil, Nat.zero_add, Nat.add_zero, Int.reduceToNat, Int.reduceLT, Int.reduceLE, Int.reduceEq, Int.reduceNeg, Int.reduceBEq, Int.reduceBNe, Array.size_push, Int.natCast_nonneg, Int.toNat_natCast, beq_false, beq_true, bne_self_eq_false, beq_self_eq_true, Bool.not_eq_false', beq_eq_false_iff_ne, String.reduceEq, Int.lt_irrefl, Nat.lt_irrefl, getP, getS, setP, setS, sizeS, Nat.left_eq_add, Nat.add_eq_left, Nat.add_right_cancel_iff, Nat.add_left_cancel_iff, Nat.lt_add_one, Nat.succ_ne_self, Nat.one_ne_zero,  nil_str, Option.isNone_some, Option.isNone_none, Option.isSome_some, Option.isSome_none, Bool.not_eq_true', decide_eq_false_iff_not, Bool.or_eq_true, Bool.and_eq_true, beq_iff_eq, bne_iff_ne, tyS, wd, wi]
      refine (state_h b E h3 hc3).mono ?_
      rintro _ h3 ⟨rfl, rfl⟩
      rw [show decide (E.st = 4) = false by simp [h22]] at key
      simp only [argE_nil, argE_cons, ↓vmD, vmV, List.toList_toArray, ↓reduceIte, Nat.reduceAdd, Nat.reduceSub, Nat.reduceEqDiff, Nat.reduceLT, Nat.reduceLeDiff, reduceCtorEq, Option.some.injEq, Prod.mk.injEq, Bool.false_eq_true, Bool.true_eq_false, and_self, and_true, true_and, and_false, false_and, or_false, or_true, false_or, true_or, Bool.and_self, Bool.and_true, Bool.true_and, Bool.false_and, Bool.and_false, Bool.false_or, Bool.or_false, Bool.true_or, Bool.or_true, Bool.not_true, Bool.not_false, not_false_eq_true, not_true_eq_false, ne_eq, decide_true, decide_false, decide_eq_true_eq, forall_const, List.cons_append, List.nil_append, List.length_cons, List.length_nil, List.size_toArray, List.setIfInBounds_toArray, List.set_cons_zero, List.set_cons_succ, List.getElem?_toArray, List.getElem?_cons_zero, List.getElem?_cons_succ, List.extract_toArray, List.extract_eq_take_drop, List.drop_zero, List.drop_succ_cons, List.drop_nil, List.take_zero, List.take_succ_cons, List.take_nil, Nat.zero_add, Nat.add_zero, Int.reduceToNat, Int.reduceLT, Int.reduceLE, Int.reduceEq, Int.reduceNeg, Int.reduceBEq, Int.reduceBNe, Array.size_push, Int.natCast_nonneg, Int.toNat_natCast, beq_false, beq_true, bne_self_eq_false, beq_self_eq_true, Bool.not_eq_false', beq_eq_false_iff_ne, String.reduceEq, Int.lt_irrefl, Nat.lt_irrefl, getP, getS, setP, setS, sizeS, Nat.left_eq_add, Nat.add_eq_left, Nat.add_right_cancel_iff, Nat.add_left_cancel_iff, Nat.lt_add_one, Nat.succ_ne_self, Nat.one_ne_zero,  nil_str, Option.isNone_some, Option.isNone_none, Option.isSome_some, Option.isSome_none, Bool.not_eq_true', decide_eq_false_iff_not, Bool.or_eq_true, Bool.and_eq_true, beq_iff_eq, bne_iff_ne, tyS, wd, wi, h22]
      refine (state_h b E h3 hc3).mono ?_
      rintro _ h3 ⟨rfl, rfl⟩
      simp only [argE_nil, argE_cons, ↓vmD, vmV, List.toList_toArray, ↓reduceIte, Nat.reduceAdd, Nat.reduceSub, Nat.reduceEqDiff, Nat.reduceLT, Nat.reduceLeDiff, reduceCtorEq, Option.some.injEq, Prod.mk.injEq, Bool.false_eq_true, Bool.true_eq_false, and_self, and_true, true_and, and_false, false_and, or_false, or_true, false_or, true_or, Bool.and_self, Bool.and_true, Bool.true_and, Bool.false_and, Bool.and_false, Bool.false_or, Bool.or_false, Bool.true_or, Bool.or_true, Bool.not_true, Bool.not_false, not_false_eq_true, not_true_eq_false, ne_eq, decide_true, decide_false, decide_eq_true_eq, forall_const, List.cons_append, List.nil_append, List.length_cons, List.length_nil, List.size_toArray, List.setIfInBounds_toArray, List.set_cons_zero, List.set_cons_succ, List.getElem?_toArray, List.getElem?_cons_zero, List.getElem?_cons_succ, List.extract_toArray, List.extract_eq_take_drop, List.drop_zero, List.drop_succ_cons, List.drop_nil, List.take_zero, List.take_succ_cons, List.take_nil, Nat.zero_add, Nat.add_zero, Int.reduceToNat, Int.reduceLT, Int.reduceLE, Int.reduceEq, Int.reduceNeg, Int.reduceBEq, Int.reduceBNe, Array.size_push, Int.natCast_nonneg, Int.toNat_natCast, beq_false, beq_true, bne_self_eq_false, beq_self_eq_true, Bool.not_eq_false', beq_eq_false_iff_ne, String.reduceEq, Int.lt_irrefl, Nat.lt_irrefl, getP, getS, setP, setS, sizeS, Nat.left_eq_add, Nat.add_eq_left, Nat.add_right_cancel_iff, Nat.add_left_cancel_iff, Nat.lt_add_one, Nat.succ_ne_self, Nat.one_ne_zero,  nil_str, Option.isNone_some, Option.isNone_none, Option.isSome_some, Option.isSome_none, Bool.not_eq_true', decide_eq_false_iff_not, Bool.or_eq_true, Bool.and_eq_true, beq_iff_eq, bne_iff_ne, tyS, wd, wi, h22]
      exact LoopAt.weak key ⟨rfl, rfl, rfl, rfl, rfl, rfl, rfl, trivial⟩
    · rw [if_neg h22]
      simp only [argE_nil, argE_cons, ↓vmD, vmV, List.toList_toArray, ↓reduceIte, Nat.reduceAdd, Nat.reduceSub, Nat.reduceEqDiff, Nat.reduceLT, Nat.reduceLeDiff, reduceCtorEq, Option.some.injEq, Prod.mk.injEq, Bool.false_eq_true, Bool.true_eq_false, and_self, and_true, true_and, and_false, false_and, or_false, or_true, false_or, true_or, Bool.and_self, Bool.and_true, Bool.true_and, Bool.false_and, Bool.and_false, Bool.false_or, Bool.or_false, Bool.true_or, Bool.or_true, Bool.not_true, Bool.not_false, not_false_eq_true, not_true_eq_false, ne_eq, decide_true, decide_false, decide_eq_true_eq, forall_const, List.cons_append, List.nil_append, List.length_cons, List.length_nil, List.size_toArray, List.setIfInBounds_toArray, List.set_cons_zero, List.set_cons_succ, List.getElem?_toArray, List.getElem?_cons_zero, List.getElem?_cons_succ, List.extract_toArray, List.extract_eq_take_drop, List.drop_zero, List.drop_succ_cons, List.drop_nil, List.take_zero, List.take_succ_cons, List.take_nil, Nat.zero_add, Nat.add_zero, Int.reduceToNat, Int.reduceLT, Int.reduceLE, Int.reduceEq, Int.reduceNeg, Int.reduceBEq, Int.reduceBNe, Array.size_push, Int.natCast_nonneg, Int.toNat_natCast, beq_false, beq_true, bne_self_eq_false, beq_self_eq_true, Bool.not_eq_false', beq_eq_false_iff_ne, String.reduceEq, Int.lt_irrefl, Nat.lt_irrefl, getP, getS, setP, setS, sizeS, Nat.left_eq_add, Nat.add_eq_left, Nat.add_right_cancel_iff, Nat.add_left_cancel_iff, Nat.lt_add_one, Nat.succ_ne_self, Nat.one_ne_zero,  nil_str, Option.isNone_some, Option.isNone_none, Option.isSome_some, Option.isSome_none, Bool.not_eq_true', decide_eq_false_iff_not, Bool.or_eq_true, Bool.and_eq_true, beq_iff_eq, bne_iff_ne, tyS, wd, wi]
      refine (state_h b E h3 hc3).mono ?_
      rintro _ h3 ⟨rfl, rfl⟩
      simp only [argE_nil, argE_cons, ↓vmD, vmV, List.toList_toArray, ↓reduceIte, Nat.reduceAdd, Nat.reduceSub, Nat.reduceEqDiff, Nat.reduceLT, Nat.reduceLeDiff, reduceCtorEq, Option.some.injEq, Prod.mk.injEq, Bool.false_eq_true, Bool.true_eq_false, and_self, and_true, true_and, and_false, false_and, or_false, or_true, false_or, true_or, Bool.and_self, Bool.and_true, Bool.true_and, Bool.false_and, Bool.and_false, Bool.false_or, Bool.or_false, Bool.true_or, Bool.or_true, Bool.not_true, Bool.not_false, not_false_eq_true, not_true_eq_false, ne_eq, decide_true, decide_false, decide_eq_true_eq, forall_const, List.cons_append, List.nil_append, List.length_cons, List.length_nil, List.size_toArray, List.setIfInBounds_toArray, List.set_cons_zero, List.set_cons_succ, List.getElem?_toArray, List.getElem?_cons_zero, List.getElem?_cons_succ, List.extract_toArray, List.extract_eq_take_drop, List.drop_zero, List.drop_succ_cons, List.drop_nil, List.take_zero, List.take_succ_cons, List.take_nil, Nat.zero_add, Nat.add_zero, Int.reduceToNat, Int.reduceLT, Int.reduceLE, Int.reduceEq, Int.reduceNeg, Int.reduceBEq, Int.reduceBNe, Array.size_push, Int.natCast_nonneg, Int.toNat_natCast, beq_false, beq_true, bne_self_eq_false, beq_self_eq_true, Bool.not_eq_false', beq_eq_false_iff_ne, String.reduceEq, Int.lt_irrefl, Nat.lt_irrefl, getP, getS, setP, setS, sizeS, Nat.left_eq_add, Nat.add_eq_left, Nat.add_right_cancel_iff, Nat.add_left_cancel_iff, Nat.lt_add_one, Nat.succ_ne_self, Nat.one_ne_zero,  nil_str, Option.isNone_some, Option.isNone_none, Option.isSome_some, Option.isSome_none, Bool.not_eq_true', decide_eq_false_iff_not, Bool.or_eq_true, Bool.and_eq_true, beq_iff_eq, bne_iff_ne, tyS, wd, wi, h22]
      refine (state_h b E h3 hc3).mono ?_
      rintro _ h3 ⟨rfl, rfl⟩
      simp only [argE_nil, argE_cons, ↓vmD, vmV, List.toList_toArray, ↓reduceIte, Nat.reduceAdd, Nat.reduceSub, Nat.reduceEqDiff, Nat.reduceLT, Nat.reduceLeDiff, reduceCtorEq, Option.some.injEq, Prod.mk.injEq, Bool.false_eq_true, Bool.true_eq_false, and_self, and_true, true_and, and_false, false_and, or_false, or_true, false_or, true_or, Bool.and_self, Bool.and_true, Bool.true_and, Bool.false_and, Bool.and_false, Bool.false_or, Bool.or_false, Bool.true_or, Bool.or_true, Bool.not_true, Bool.not_false, not_false_eq_true, not_true_eq_false, ne_eq, decide_true, decide_false, decide_eq_true_eq, forall_const, List.cons_append, List.nil_append, List.length_cons, List.length_nil, List.size_toArray, List.setIfInBounds_toArray, List.set_cons_zero, List.set_cons_succ, List.getElem?_toArray, List.getElem?_cons_zero, List.getElem?_cons_succ, List.extract_toArray, List.extract_eq_take_drop, List.drop_zero, List.drop_succ_cons, List.drop_nil, List.take_zero, List.take_succ_cons, List.take_nil, Nat.zero_add, Nat.add_zero, Int.reduceToNat, Int.reduceLT, Int.reduceLE, Int.reduceEq, Int.reduceNeg, Int.reduceBEq, Int.reduceBNe, Array.size_push, Int.natCast_nonneg, Int.toNat_natCast, beq_false, beq_true, bne_self_eq_false, beq_self_eq_true, Bool.not_eq_false', beq_eq_false_iff_ne, String.reduceEq, Int.lt_irrefl, Nat.lt_irrefl, getP, getS, setP, setS, sizeS, Nat.left_eq_add, Nat.add_eq_left, Nat.add_right_cancel_iff, Nat.add_left_cancel_iff, Nat.lt_add_one, Nat.succ_ne_self, Nat.one_ne_zero,  nil_str, Option.isNone_some, Option.isNone_none, Option.isSome_some, Option.isSome_none, Bool.not_eq_true', decide_eq_false_iff_not, Bool.or_eq_true, Bool.and_eq_true, beq_iff_eq, bne_iff_ne, tyS, wd, wi, h22]
      exact LoopAt.weak key ⟨rfl, rfl, rfl, rfl, rfl, rfl, rfl, trivial⟩
theorem inU8 {h : Heap} {p : Option Addr} {len cap : Nat} (w : Fits h (.sl 1 (.int .u8)) [.slice p len cap]) : InU8 h p len ∧ len ≤ 9223372036854775807 := by
  obtain ⟨p', len', cap', hv, h1, h2, h3⟩ := slice_fits (v := .slice p len cap) (by decide) w (fun c => by simp)
  simp only [Value.slice.injEq] at hv
  obtain ⟨rfl, rfl, rfl⟩ := hv
  refine ⟨?_, by simp only [maxLen] at h2; omega⟩
  rcases h3 with h3 | ⟨b, off, c, e, fr, rfl, hb, hc⟩
  · exact .inl h3
  · refine .inr ⟨b, off, c, e, fr, rfl, hb, fun i hi => ?_⟩
    obtain ⟨es, e1, e2, e3, e4⟩ := hc i hi
    obtain ⟨n, rfl, hw⟩ := e4
    have := e2 0 (by decide)
    simp [Lit.wf, IntKind.min, IntKind.max, IntKind.bits, IntKind.signed] at hw
    exact ⟨n, by simpa using this, by omega, by omega⟩
theorem closed_w (h : Heap) (p : Option Addr) (len cap : Nat) (w : Fits h (.sl 1 (.int .u8)) [.slice p len cap]) (d : Int) (wd : (Lit.int .u8 d).wf = true) :
    CallsH Try.prog 6 #[.slice p len cap, .int .u8 d] h fun r h' => r = .returned (.bool true) ∧ Grew h h' := by
  simp [Lit.wf, IntKind.min, IntKind.max, IntKind.bits, IntKind.signed] at wd
  exact closed_h p len cap d h (inU8 w).1 (inU8 w).2 (by omega)
end Go.Proofs.Ytdpminnijcpghaa
