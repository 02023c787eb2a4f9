/-
Reasons: the law of deadlines, and its walk.
Conditions: none.
-/
import Derived.Test.YtamiclgnehfhpaaDoorLwk
import Derived.Test.YtamiclgnehfhpaaDoorVmOA
namespace Go.Proofs.YtamiclgnehfhpaaDoor
open Go.Vm
set_option linter.unusedSimpArgs false
set_option linter.unusedVariables false
set_option maxHeartbeats 4000000
set_option maxRecDepth 20000
theorem vbLdl : type_of% (And.intro @slIndexByte_v (And.intro @indexByte_v (And.intro @indexRune_v (And.intro @containsRune_v (And.intro @slHasPrefix_v (And.intro @hasPrefix_v (And.intro @classOf_v (And.intro @isWordByte_v (And.intro @letter_v (And.intro @digit_v (And.intro @wordAt_v (And.intro @rword_v (And.intro @skip_v (And.intro @rskip_v (And.intro @number_v (And.intro @rnumber_v (And.intro @literal_v (And.intro @rtext_v (And.intro @lexemeAt_v (And.intro @rlexeme_v (And.intro @isName_v (And.intro @risName_v (And.intro @possible_v (And.intro @days_v (And.intro @due_v (And.intro @rkind_v (And.intro @rdays_v (And.intro @rdaysS_v (And.intro @rdue_v (And.intro @soft_usd (And.intro @soft_ust (And.intro @cnvN_pu (And.intro @cnvN_up (@eqS_pp)))))))))))))))))))))))))))))))))) := And.intro @slIndexByte_v (And.intro @indexByte_v (And.intro @indexRune_v (And.intro @containsRune_v (And.intro @slHasPrefix_v (And.intro @hasPrefix_v (And.intro @classOf_v (And.intro @isWordByte_v (And.intro @letter_v (And.intro @digit_v (And.intro @wordAt_v (And.intro @rword_v (And.intro @skip_v (And.intro @rskip_v (And.intro @number_v (And.intro @rnumber_v (And.intro @literal_v (And.intro @rtext_v (And.intro @lexemeAt_v (And.intro @rlexeme_v (And.intro @isName_v (And.intro @risName_v (And.intro @possible_v (And.intro @days_v (And.intro @due_v (And.intro @rkind_v (And.intro @rdays_v (And.intro @rdaysS_v (And.intro @rdue_v (And.intro @soft_usd (And.intro @soft_ust (And.intro @cnvN_pu (And.intro @cnvN_up (@eqS_pp)))))))))))))))))))))))))))))))))
theorem ixA {P : Program} {t e : TypeId} {len : Nat} {b : Bool} (hu : P.underlying t = some (.array len e)) (hs : shp P e = some (b, 1)) (a : Addr) (k : IntKind) (n : Int) (K : Value → Prop) : ixaW P t (.pointer (some a)) (.int k n) K = need (0 ≤ n ∧ n < (len : Int)) (K (.pointer (some (a.add (n.toNat * 1))))) := by
  simp only [ixaW, hu, hs, bnd]
theorem ixU (a : Addr) (k : IntKind) (n : Int) (K : Value → Prop) : ixaW Tryd.prog 46 (.pointer (some a)) (.int k n) K = need (0 ≤ n ∧ n < 4) (K (.pointer (some (a.add (n.toNat * 1))))) := ixA (e := 45) (b := false) (by kernel_rfl) (by kernel_rfl) a k n K
theorem ixN (a : Addr) (k : IntKind) (n : Int) (K : Value → Prop) : ixaW Tryd.prog 47 (.pointer (some a)) (.int k n) K = need (0 ≤ n ∧ n < 4) (K (.pointer (some (a.add (n.toNat * 1))))) := ixA (e := 3) (b := false) (by kernel_rfl) (by kernel_rfl) a k n K
theorem bl4 (a b c d : Int) : bldS Tryd.prog 47 false (some (.agg #[.int .i64 0, .int .i64 0, .int .i64 0, .int .i64 0])) [(0, .int .i64 a), (1, .int .i64 b), (2, .int .i64 c), (3, .int .i64 d)] = some (.agg #[.int .i64 a, .int .i64 b, .int .i64 c, .int .i64 d]) := by kernel_rfl
theorem day_of {a : Int} (h : 0 ≤ a ∧ a ≤ 65535) : ∃ n : Int, 1 ≤ n ∧ n ≤ 1000 ∧ IntKind.i64.wrap a = a ∧ a.tmod 1000 = n - 1 ∧ IntKind.i64.wrap (1 + (n - 1)) = n := by
  refine ⟨a % 1000 + 1, by omega, by omega, w_i64 (by omega) (by omega), ?_, ?_⟩
  · rw [Int.tmod_eq_emod_of_nonneg h.1]; omega
  · rw [w_i64 (by omega) (by omega)]; omega
theorem due_fit {n dt : Int} (h1 : 1 ≤ n) (h2 : n ≤ 1000) : okD n = true := by simp [okD, h1, h2]
theorem deadLaw_h (A : AH) (hT : TabA A) (a b c d : Int) (ha : 0 ≤ a ∧ a ≤ 65535) (hb : 0 ≤ b ∧ b ≤ 65535) (hc : 0 ≤ c ∧ c ≤ 65535) (hd : 0 ≤ d ∧ d ≤ 65535) (st dt : Int) : CallA Tryd.prog 6 #[.agg #[.int .u16 a, .int .u16 b, .int .u16 c, .int .u16 d], .int .i64 st, .int .i64 dt] A (fun u_ A_ => u_ = .bool true ∧ SubA A A_) := by
  refine callA_of_denA ⟨Tryd.prog, 6, Tryd.f6, 100, [0, 1, 2, 3, 6, 7, 8, 9, 10], [10], [], _⟩ (args := [_, _, _]) Tryd.func6 rfl (by kernel_rfl) Tryd.ntmps6 (by simp) (by kernel_rfl) ?_
  intro ν fr; have nuE := fr.nu
  obtain ⟨n0, a1, a2, a3, a4, a5⟩ := day_of ha
  obtain ⟨n1, b1, b2, b3, b4, b5⟩ := day_of hb
  obtain ⟨n2, c1, c2, c3, c4, c5⟩ := day_of hc
  obtain ⟨n3, d1, d2, d3, d4, d5⟩ := day_of hd
  have dv := fun B => due_v (⟨⟨[97], n0, n1, n2, n3, [], []⟩, none, 0, none, 0⟩ : Rs) st dt B
  have dv' : ∀ B, valA Tryd.prog 20 #[.agg #[.string ⟨#[97]⟩, .int .i64 n0, .int .i64 n1, .int .i64 n2, .int .i64 n3, .slice none 0 0, .slice none 0 0], .int .i64 st, .int .i64 dt] B = some (.tuple #[.int .i64 (dueF ⟨[97], n0, n1, n2, n3, [], []⟩ st dt).1, .int .i64 (dueF ⟨[97], n0, n1, n2, n3, [], []⟩ st dt).2]) := dv
  clear dv
  have cl : (Value.agg #[.int .u16 a, .int .u16 b, .int .u16 c, .int .u16 d]).cells = #[.int .u16 a, .int .u16 b, .int .u16 c, .int .u16 d] := rfl
  have g0 := fr.2 0
  have g1 := fr.2 1
  have g2 := fr.2 2
  have sub3 : ∀ o o' o'', SubA A ((ν 2, o) :: (ν 1, o') :: (ν 0, o'') :: A) := fun o o' o'' => SubA.fresh (by simp only [Vm.look, nuE, if_false]; exact g2) (SubA.fresh (by simp only [Vm.look, nuE, if_false]; exact g1) (SubA.fresh g0 (SubA.refl _)))
  have fin : ∀ (o o' o'' : Obj) (B : AH), SubA (B ++ ((ν 2, o) :: (ν 1, o') :: (ν 0, o'') :: A)) (B ++ ((ν 2, o) :: (ν 1, o') :: (ν 0, o'') :: A)) := fun _ _ _ _ => SubA.refl _
  by_cases k1 : st < 0
  · have hD : dueF ⟨[97], n0, n1, n2, n3, [], []⟩ st dt = (0, 8) := by
      unfold dueF daysF
      have h0 : ¬ st = 0 := by omega
      have h1 : ¬ st = 1 := by omega
      have h2 : ¬ st = 2 := by omega
      have h3 : ¬ st = 3 := by omega
      simp [h0, h1, h2, h3]
    rw [hD] at dv'
    simp (maxDischargeDepth := 16) only [argE_nil, argE_cons, ↓vmD, vmV, vmStd, Nat.reduceMul, ↓reduceIte, Nat.reduceAdd, Nat.reduceSub, Nat.reduceEqDiff, Nat.reduceLT, Nat.reduceLeDiff, reduceCtorEq, Int.reduceToNat, Int.reduceLT, Int.reduceLE, Int.reduceEq, Int.reduceNeg, Int.reduceBEq, Int.reduceBNe, String.reduceEq, forall_const, ↓vmDA, vmVA, ↓vmQA, vmR, vmRA, ↓vmSA, vmSV, tyS, nuE, SubA.skip, SubA.refl, fr.2, vbLdl, ↓sA_usd, ↓sA_ust, a3, a4, a5, b3, b4, b5, c3, c4, c5, d3, d4, d5, dv', ixU, ixN, bl4, cl, Nat.mul_one, Nat.zero_add, eq_true k1]
    refine CallA.newX (awk_n A hT) (sub3 _ _ _) ?_
    rintro v B rfl hdB
    refine ⟨A, SubA.trans (sub3 _ _ _) hdB.right, ?_⟩
    clear nuE fr
    intro ν fr; have nuE := fr.nu
    simp (maxDischargeDepth := 16) only [argE_nil, argE_cons, ↓vmD, vmV, vmStd, Nat.reduceMul, ↓reduceIte, Nat.reduceAdd, Nat.reduceSub, Nat.reduceEqDiff, Nat.reduceLT, Nat.reduceLeDiff, reduceCtorEq, Int.reduceToNat, Int.reduceLT, Int.reduceLE, Int.reduceEq, Int.reduceNeg, Int.reduceBEq, Int.reduceBNe, String.reduceEq, forall_const, ↓vmDA, vmVA, ↓vmQA, vmR, vmRA, ↓vmSA, vmSV, tyS, nuE, SubA.skip, SubA.refl, fr.2, vbLdl, ↓sA_usd, ↓sA_ust]
  by_cases k2 : 3 < st
  · have hD : dueF ⟨[97], n0, n1, n2, n3, [], []⟩ st dt = (0, 8) := by
      unfold dueF daysF
      have h0 : ¬ st = 0 := by omega
      have h1 : ¬ st = 1 := by omega
      have h2 : ¬ st = 2 := by omega
      have h3 : ¬ st = 3 := by omega
      simp [h0, h1, h2, h3]
    rw [hD] at dv'
    simp (maxDischargeDepth := 16) only [argE_nil, argE_cons, ↓vmD, vmV, vmStd, Nat.reduceMul, ↓reduceIte, Nat.reduceAdd, Nat.reduceSub, Nat.reduceEqDiff, Nat.reduceLT, Nat.reduceLeDiff, reduceCtorEq, Int.reduceToNat, Int.reduceLT, Int.reduceLE, Int.reduceEq, Int.reduceNeg, Int.reduceBEq, Int.reduceBNe, String.reduceEq, forall_const, ↓vmDA, vmVA, ↓vmQA, vmR, vmRA, ↓vmSA, vmSV, tyS, nuE, SubA.skip, SubA.refl, fr.2, vbLdl, ↓sA_usd, ↓sA_ust, a3, a4, a5, b3, b4, b5, c3, c4, c5, d3, d4, d5, dv', ixU, ixN, bl4, cl, Nat.mul_one, Nat.zero_add, eq_false k1, eq_true k2]
    refine CallA.newX (awk_n A hT) (sub3 _ _ _) ?_
    rintro v B rfl hdB
    refine ⟨A, SubA.trans (sub3 _ _ _) hdB.right, ?_⟩
    clear nuE fr
    intro ν fr; have nuE := fr.nu
    simp (maxDischargeDepth := 16) only [argE_nil, argE_cons, ↓vmD, vmV, vmStd, Nat.reduceMul, ↓reduceIte, Nat.reduceAdd, Nat.reduceSub, Nat.reduceEqDiff, Nat.reduceLT, Nat.reduceLeDiff, reduceCtorEq, Int.reduceToNat, Int.reduceLT, Int.reduceLE, Int.reduceEq, Int.reduceNeg, Int.reduceBEq, Int.reduceBNe, String.reduceEq, forall_const, ↓vmDA, vmVA, ↓vmQA, vmR, vmRA, ↓vmSA, vmSV, tyS, nuE, SubA.skip, SubA.refl, fr.2, vbLdl, ↓sA_usd, ↓sA_ust]
  have hs : st = 0 ∨ st = 1 ∨ st = 2 ∨ st = 3 := by omega
  have key : ∀ n, 1 ≤ n → n ≤ 1000 → (daysF ⟨[97], n0, n1, n2, n3, [], []⟩ st = (n, 0)) → dueF ⟨[97], n0, n1, n2, n3, [], []⟩ st dt = if dt < 0 ∨ 99999 < dt ∨ 99999 < dt + n then (0, 14) else (dt + n, 0) := fun n h1 h2 h3 => by
    unfold dueF
    rw [h3]
    simp [due_fit (dt := dt) h1 h2]
  rcases hs with hs | hs | hs | hs
  · subst hs
    rw [key n0 a1 a2 (by rfl)] at dv'
    by_cases k3 : dt < 0
    · rw [if_pos (.inl k3)] at dv'
      simp (maxDischargeDepth := 16) only [argE_nil, argE_cons, ↓vmD, vmV, vmStd, Nat.reduceMul, ↓reduceIte, Nat.reduceAdd, Nat.reduceSub, Nat.reduceEqDiff, Nat.reduceLT, Nat.reduceLeDiff, reduceCtorEq, Int.reduceToNat, Int.reduceLT, Int.reduceLE, Int.reduceEq, Int.reduceNeg, Int.reduceBEq, Int.reduceBNe, String.reduceEq, forall_const, ↓vmDA, vmVA, ↓vmQA, vmR, vmRA, ↓vmSA, vmSV, tyS, nuE, SubA.skip, SubA.refl, fr.2, vbLdl, ↓sA_usd, ↓sA_ust, a3, a4, a5, b3, b4, b5, c3, c4, c5, d3, d4, d5, dv', ixU, ixN, bl4, cl, Nat.mul_one, Nat.zero_add, eq_true k3]
      refine CallA.newX (awk_n A hT) (sub3 _ _ _) ?_
      rintro v B rfl hdB
      refine ⟨A, SubA.trans (sub3 _ _ _) hdB.right, ?_⟩
      clear nuE fr
      intro ν fr; have nuE := fr.nu
      simp (maxDischargeDepth := 16) only [argE_nil, argE_cons, ↓vmD, vmV, vmStd, Nat.reduceMul, ↓reduceIte, Nat.reduceAdd, Nat.reduceSub, Nat.reduceEqDiff, Nat.reduceLT, Nat.reduceLeDiff, reduceCtorEq, Int.reduceToNat, Int.reduceLT, Int.reduceLE, Int.reduceEq, Int.reduceNeg, Int.reduceBEq, Int.reduceBNe, String.reduceEq, forall_const, ↓vmDA, vmVA, ↓vmQA, vmR, vmRA, ↓vmSA, vmSV, tyS, nuE, SubA.skip, SubA.refl, fr.2, vbLdl, ↓sA_usd, ↓sA_ust]
    by_cases k4 : 99999 < dt
    · rw [if_pos (.inr (.inl k4))] at dv'
      simp (maxDischargeDepth := 16) only [argE_nil, argE_cons, ↓vmD, vmV, vmStd, Nat.reduceMul, ↓reduceIte, Nat.reduceAdd, Nat.reduceSub, Nat.reduceEqDiff, Nat.reduceLT, Nat.reduceLeDiff, reduceCtorEq, Int.reduceToNat, Int.reduceLT, Int.reduceLE, Int.reduceEq, Int.reduceNeg, Int.reduceBEq, Int.reduceBNe, String.reduceEq, forall_const, ↓vmDA, vmVA, ↓vmQA, vmR, vmRA, ↓vmSA, vmSV, tyS, nuE, SubA.skip, SubA.refl, fr.2, vbLdl, ↓sA_usd, ↓sA_ust, a3, a4, a5, b3, b4, b5, c3, c4, c5, d3, d4, d5, dv', ixU, ixN, bl4, cl, Nat.mul_one, Nat.zero_add, eq_false k3, eq_true k4]
      refine CallA.newX (awk_n A hT) (sub3 _ _ _) ?_
      rintro v B rfl hdB
      refine ⟨A, SubA.trans (sub3 _ _ _) hdB.right, ?_⟩
      clear nuE fr
      intro ν fr; have nuE := fr.nu
      simp (maxDischargeDepth := 16) only [argE_nil, argE_cons, ↓vmD, vmV, vmStd, Nat.reduceMul, ↓reduceIte, Nat.reduceAdd, Nat.reduceSub, Nat.reduceEqDiff, Nat.reduceLT, Nat.reduceLeDiff, reduceCtorEq, Int.reduceToNat, Int.reduceLT, Int.reduceLE, Int.reduceEq, Int.reduceNeg, Int.reduceBEq, Int.reduceBNe, String.reduceEq, forall_const, ↓vmDA, vmVA, ↓vmQA, vmR, vmRA, ↓vmSA, vmSV, tyS, nuE, SubA.skip, SubA.refl, fr.2, vbLdl, ↓sA_usd, ↓sA_ust]
    have w0 : IntKind.i64.wrap (dt + n0) = dt + n0 := w_i64 (by omega) (by omega)
    have w1 : IntKind.i64.wrap (dt + n0 - dt) = n0 := by rw [show dt + n0 - dt = n0 by omega]; exact w_i64 (by omega) (by omega)
    by_cases k5 : 99999 < dt + n0
    · rw [if_pos (.inr (.inr k5))] at dv'
      simp (maxDischargeDepth := 16) only [argE_nil, argE_cons, ↓vmD, vmV, vmStd, Nat.reduceMul, ↓reduceIte, Nat.reduceAdd, Nat.reduceSub, Nat.reduceEqDiff, Nat.reduceLT, Nat.reduceLeDiff, reduceCtorEq, Int.reduceToNat, Int.reduceLT, Int.reduceLE, Int.reduceEq, Int.reduceNeg, Int.reduceBEq, Int.reduceBNe, String.reduceEq, forall_const, ↓vmDA, vmVA, ↓vmQA, vmR, vmRA, ↓vmSA, vmSV, tyS, nuE, SubA.skip, SubA.refl, fr.2, vbLdl, ↓sA_usd, ↓sA_ust, a3, a4, a5, b3, b4, b5, c3, c4, c5, d3, d4, d5, dv', ixU, ixN, bl4, cl, Nat.mul_one, Nat.zero_add, eq_false k3, eq_false k4, w0, eq_true k5]
      refine CallA.newX (awk_n A hT) (sub3 _ _ _) ?_
      rintro v B rfl hdB
      refine ⟨A, SubA.trans (sub3 _ _ _) hdB.right, ?_⟩
      clear nuE fr
      intro ν fr; have nuE := fr.nu
      simp (maxDischargeDepth := 16) only [argE_nil, argE_cons, ↓vmD, vmV, vmStd, Nat.reduceMul, ↓reduceIte, Nat.reduceAdd, Nat.reduceSub, Nat.reduceEqDiff, Nat.reduceLT, Nat.reduceLeDiff, reduceCtorEq, Int.reduceToNat, Int.reduceLT, Int.reduceLE, Int.reduceEq, Int.reduceNeg, Int.reduceBEq, Int.reduceBNe, String.reduceEq, forall_const, ↓vmDA, vmVA, ↓vmQA, vmR, vmRA, ↓vmSA, vmSV, tyS, nuE, SubA.skip, SubA.refl, fr.2, vbLdl, ↓sA_usd, ↓sA_ust]
    · rw [if_neg (by omega)] at dv'
      simp (maxDischargeDepth := 16) only [argE_nil, argE_cons, ↓vmD, vmV, vmStd, Nat.reduceMul, ↓reduceIte, Nat.reduceAdd, Nat.reduceSub, Nat.reduceEqDiff, Nat.reduceLT, Nat.reduceLeDiff, reduceCtorEq, Int.reduceToNat, Int.reduceLT, Int.reduceLE, Int.reduceEq, Int.reduceNeg, Int.reduceBEq, Int.reduceBNe, String.reduceEq, forall_const, ↓vmDA, vmVA, ↓vmQA, vmR, vmRA, ↓vmSA, vmSV, tyS, nuE, SubA.skip, SubA.refl, fr.2, vbLdl, ↓sA_usd, ↓sA_ust, a3, a4, a5, b3, b4, b5, c3, c4, c5, d3, d4, d5, dv', ixU, ixN, bl4, cl, Nat.mul_one, Nat.zero_add, eq_false k3, eq_false k4, w0, w1, eq_false k5]
      refine CallA.newX (awk_n A hT) (sub3 _ _ _) ?_
      rintro v B rfl hdB
      refine ⟨A, SubA.trans (sub3 _ _ _) hdB.right, ?_⟩
      clear nuE fr
      intro ν fr; have nuE := fr.nu
      simp (maxDischargeDepth := 16) only [argE_nil, argE_cons, ↓vmD, vmV, vmStd, Nat.reduceMul, ↓reduceIte, Nat.reduceAdd, Nat.reduceSub, Nat.reduceEqDiff, Nat.reduceLT, Nat.reduceLeDiff, reduceCtorEq, Int.reduceToNat, Int.reduceLT, Int.reduceLE, Int.reduceEq, Int.reduceNeg, Int.reduceBEq, Int.reduceBNe, String.reduceEq, forall_const, ↓vmDA, vmVA, ↓vmQA, vmR, vmRA, ↓vmSA, vmSV, tyS, nuE, SubA.skip, SubA.refl, fr.2, vbLdl, ↓sA_usd, ↓sA_ust]
  · subst hs
    rw [key n1 b1 b2 (by rfl)] at dv'
    by_cases k3 : dt < 0
    · rw [if_pos (.inl k3)] at dv'
      simp (maxDischargeDepth := 16) only [argE_nil, argE_cons, ↓vmD, vmV, vmStd, Nat.reduceMul, ↓reduceIte, Nat.reduceAdd, Nat.reduceSub, Nat.reduceEqDiff, Nat.reduceLT, Nat.reduceLeDiff, reduceCtorEq, Int.reduceToNat, Int.reduceLT, Int.reduceLE, Int.reduceEq, Int.reduceNeg, Int.reduceBEq, Int.reduceBNe, String.reduceEq, forall_const, ↓vmDA, vmVA, ↓vmQA, vmR, vmRA, ↓vmSA, vmSV, tyS, nuE, SubA.skip, SubA.refl, fr.2, vbLdl, ↓sA_usd, ↓sA_ust, a3, a4, a5, b3, b4, b5, c3, c4, c5, d3, d4, d5, dv', ixU, ixN, bl4, cl, Nat.mul_one, Nat.zero_add, eq_true k3]
      refine CallA.newX (awk_n A hT) (sub3 _ _ _) ?_
      rintro v B rfl hdB
      refine ⟨A, SubA.trans (sub3 _ _ _) hdB.right, ?_⟩
      clear nuE fr
      intro ν fr; have nuE := fr.nu
      simp (maxDischargeDepth := 16) only [argE_nil, argE_cons, ↓vmD, vmV, vmStd, Nat.reduceMul, ↓reduceIte, Nat.reduceAdd, Nat.reduceSub, Nat.reduceEqDiff, Nat.reduceLT, Nat.reduceLeDiff, reduceCtorEq, Int.reduceToNat, Int.reduceLT, Int.reduceLE, Int.reduceEq, Int.reduceNeg, Int.reduceBEq, Int.reduceBNe, String.reduceEq, forall_const, ↓vmDA, vmVA, ↓vmQA, vmR, vmRA, ↓vmSA, vmSV, tyS, nuE, SubA.skip, SubA.refl, fr.2, vbLdl, ↓sA_usd, ↓sA_ust]
    by_cases k4 : 99999 < dt
    · rw [if_pos (.inr (.inl k4))] at dv'
      simp (maxDischargeDepth := 16) only [argE_nil, argE_cons, ↓vmD, vmV, vmStd, Nat.reduceMul, ↓reduceIte, Nat.reduceAdd, Nat.reduceSub, Nat.reduceEqDiff, Nat.reduceLT, Nat.reduceLeDiff, reduceCtorEq, Int.reduceToNat, Int.reduceLT, Int.reduceLE, Int.reduceEq, Int.reduceNeg, Int.reduceBEq, Int.reduceBNe, String.reduceEq, forall_const, ↓vmDA, vmVA, ↓vmQA, vmR, vmRA, ↓vmSA, vmSV, tyS, nuE, SubA.skip, SubA.refl, fr.2, vbLdl, ↓sA_usd, ↓sA_ust, a3, a4, a5, b3, b4, b5, c3, c4, c5, d3, d4, d5, dv', ixU, ixN, bl4, cl, Nat.mul_one, Nat.zero_add, eq_false k3, eq_true k4]
      refine CallA.newX (awk_n A hT) (sub3 _ _ _) ?_
      rintro v B rfl hdB
      refine ⟨A, SubA.trans (sub3 _ _ _) hdB.right, ?_⟩
      clear nuE fr
      intro ν fr; have nuE := fr.nu
      simp (maxDischargeDepth := 16) only [argE_nil, argE_cons, ↓vmD, vmV, vmStd, Nat.reduceMul, ↓reduceIte, Nat.reduceAdd, Nat.reduceSub, Nat.reduceEqDiff, Nat.reduceLT, Nat.reduceLeDiff, reduceCtorEq, Int.reduceToNat, Int.reduceLT, Int.reduceLE, Int.reduceEq, Int.reduceNeg, Int.reduceBEq, Int.reduceBNe, String.reduceEq, forall_const, ↓vmDA, vmVA, ↓vmQA, vmR, vmRA, ↓vmSA, vmSV, tyS, nuE, SubA.skip, SubA.refl, fr.2, vbLdl, ↓sA_usd, ↓sA_ust]
    have w0 : IntKind.i64.wrap (dt + n1) = dt + n1 := w_i64 (by omega) (by omega)
    have w1 : IntKind.i64.wrap (dt + n1 - dt) = n1 := by rw [show dt + n1 - dt = n1 by omega]; exact w_i64 (by omega) (by omega)
    by_cases k5 : 99999 < dt + n1
    · rw [if_pos (.inr (.inr k5))] at dv'
      simp (maxDischargeDepth := 16) only [argE_nil, argE_cons, ↓vmD, vmV, vmStd, Nat.reduceMul, ↓reduceIte, Nat.reduceAdd, Nat.reduceSub, Nat.reduceEqDiff, Nat.reduceLT, Nat.reduceLeDiff, reduceCtorEq, Int.reduceToNat, Int.reduceLT, Int.reduceLE, Int.reduceEq, Int.reduceNeg, Int.reduceBEq, Int.reduceBNe, String.reduceEq, forall_const, ↓vmDA, vmVA, ↓vmQA, vmR, vmRA, ↓vmSA, vmSV, tyS, nuE, SubA.skip, SubA.refl, fr.2, vbLdl, ↓sA_usd, ↓sA_ust, a3, a4, a5, b3, b4, b5, c3, c4, c5, d3, d4, d5, dv', ixU, ixN, bl4, cl, Nat.mul_one, Nat.zero_add, eq_false k3, eq_false k4, w0, eq_true k5]
      refine CallA.newX (awk_n A hT) (sub3 _ _ _) ?_
      rintro v B rfl hdB
      refine ⟨A, SubA.trans (sub3 _ _ _) hdB.right, ?_⟩
      clear nuE fr
      intro ν fr; have nuE := fr.nu
      simp (maxDischargeDepth := 16) only [argE_nil, argE_cons, ↓vmD, vmV, vmStd, Nat.reduceMul, ↓reduceIte, Nat.reduceAdd, Nat.reduceSub, Nat.reduceEqDiff, Nat.reduceLT, Nat.reduceLeDiff, reduceCtorEq, Int.reduceToNat, Int.reduceLT, Int.reduceLE, Int.reduceEq, Int.reduceNeg, Int.reduceBEq, Int.reduceBNe, String.reduceEq, forall_const, ↓vmDA, vmVA, ↓vmQA, vmR, vmRA, ↓vmSA, vmSV, tyS, nuE, SubA.skip, SubA.refl, fr.2, vbLdl, ↓sA_usd, ↓sA_ust]
    · rw [if_neg (by omega)] at dv'
      simp (maxDischargeDepth := 16) only [argE_nil, argE_cons, ↓vmD, vmV, vmStd, Nat.reduceMul, ↓reduceIte, Nat.reduceAdd, Nat.reduceSub, Nat.reduceEqDiff, Nat.reduceLT, Nat.reduceLeDiff, reduceCtorEq, Int.reduceToNat, Int.reduceLT, Int.reduceLE, Int.reduceEq, Int.reduceNeg, Int.reduceBEq, Int.reduceBNe, String.reduceEq, forall_const, ↓vmDA, vmVA, ↓vmQA, vmR, vmRA, ↓vmSA, vmSV, tyS, nuE, SubA.skip, SubA.refl, fr.2, vbLdl, ↓sA_usd, ↓sA_ust, a3, a4, a5, b3, b4, b5, c3, c4, c5, d3, d4, d5, dv', ixU, ixN, bl4, cl, Nat.mul_one, Nat.zero_add, eq_false k3, eq_false k4, w0, w1, eq_false k5]
      refine CallA.newX (awk_n A hT) (sub3 _ _ _) ?_
      rintro v B rfl hdB
      refine ⟨A, SubA.trans (sub3 _ _ _) hdB.right, ?_⟩
      clear nuE fr
      intro ν fr; have nuE := fr.nu
      simp (maxDischargeDepth := 16) only [argE_nil, argE_cons, ↓vmD, vmV, vmStd, Nat.reduceMul, ↓reduceIte, Nat.reduceAdd, Nat.reduceSub, Nat.reduceEqDiff, Nat.reduceLT, Nat.reduceLeDiff, reduceCtorEq, Int.reduceToNat, Int.reduceLT, Int.reduceLE, Int.reduceEq, Int.reduceNeg, Int.reduceBEq, Int.reduceBNe, String.reduceEq, forall_const, ↓vmDA, vmVA, ↓vmQA, vmR, vmRA, ↓vmSA, vmSV, tyS, nuE, SubA.skip, SubA.refl, fr.2, vbLdl, ↓sA_usd, ↓sA_ust]
  · subst hs
    rw [key n2 c1 c2 (by rfl)] at dv'
    by_cases k3 : dt < 0
    · rw [if_pos (.inl k3)] at dv'
      simp (maxDischargeDepth := 16) only [argE_nil, argE_cons, ↓vmD, vmV, vmStd, Nat.reduceMul, ↓reduceIte, Nat.reduceAdd, Nat.reduceSub, Nat.reduceEqDiff, Nat.reduceLT, Nat.reduceLeDiff, reduceCtorEq, Int.reduceToNat, Int.reduceLT, Int.reduceLE, Int.reduceEq, Int.reduceNeg, Int.reduceBEq, Int.reduceBNe, String.reduceEq, forall_const, ↓vmDA, vmVA, ↓vmQA, vmR, vmRA, ↓vmSA, vmSV, tyS, nuE, SubA.skip, SubA.refl, fr.2, vbLdl, ↓sA_usd, ↓sA_ust, a3, a4, a5, b3, b4, b5, c3, c4, c5, d3, d4, d5, dv', ixU, ixN, bl4, cl, Nat.mul_one, Nat.zero_add, eq_true k3]
      refine CallA.newX (awk_n A hT) (sub3 _ _ _) ?_
      rintro v B rfl hdB
      refine ⟨A, SubA.trans (sub3 _ _ _) hdB.right, ?_⟩
      clear nuE fr
      intro ν fr; have nuE := fr.nu
      simp (maxDischargeDepth := 16) only [argE_nil, argE_cons, ↓vmD, vmV, vmStd, Nat.reduceMul, ↓reduceIte, Nat.reduceAdd, Nat.reduceSub, Nat.reduceEqDiff, Nat.reduceLT, Nat.reduceLeDiff, reduceCtorEq, Int.reduceToNat, Int.reduceLT, Int.reduceLE, Int.reduceEq, Int.reduceNeg, Int.reduceBEq, Int.reduceBNe, String.reduceEq, forall_const, ↓vmDA, vmVA, ↓vmQA, vmR, vmRA, ↓vmSA, vmSV, tyS, nuE, SubA.skip, SubA.refl, fr.2, vbLdl, ↓sA_usd, ↓sA_ust]
    by_cases k4 : 99999 < dt
    · rw [if_pos (.inr (.inl k4))] at dv'
      simp (maxDischargeDepth := 16) only [argE_nil, argE_cons, ↓vmD, vmV, vmStd, Nat.reduceMul, ↓reduceIte, Nat.reduceAdd, Nat.reduceSub, Nat.reduceEqDiff, Nat.reduceLT, Nat.reduceLeDiff, reduceCtorEq, Int.reduceToNat, Int.reduceLT, Int.reduceLE, Int.reduceEq, Int.reduceNeg, Int.reduceBEq, Int.reduceBNe, String.reduceEq, forall_const, ↓vmDA, vmVA, ↓vmQA, vmR, vmRA, ↓vmSA, vmSV, tyS, nuE, SubA.skip, SubA.refl, fr.2, vbLdl, ↓sA_usd, ↓sA_ust, a3, a4, a5, b3, b4, b5, c3, c4, c5, d3, d4, d5, dv', ixU, ixN, bl4, cl, Nat.mul_one, Nat.zero_add, eq_false k3, eq_true k4]
      refine CallA.newX (awk_n A hT) (sub3 _ _ _) ?_
      rintro v B rfl hdB
      refine ⟨A, SubA.trans (sub3 _ _ _) hdB.right, ?_⟩
      clear nuE fr
      intro ν fr; have nuE := fr.nu
      simp (maxDischargeDepth := 16) only [argE_nil, argE_cons, ↓vmD, vmV, vmStd, Nat.reduceMul, ↓reduceIte, Nat.reduceAdd, Nat.reduceSub, Nat.reduceEqDiff, Nat.reduceLT, Nat.reduceLeDiff, reduceCtorEq, Int.reduceToNat, Int.reduceLT, Int.reduceLE, Int.reduceEq, Int.reduceNeg, Int.reduceBEq, Int.reduceBNe, String.reduceEq, forall_const, ↓vmDA, vmVA, ↓vmQA, vmR, vmRA, ↓vmSA, vmSV, tyS, nuE, SubA.skip, SubA.refl, fr.2, vbLdl, ↓sA_usd, ↓sA_ust]
    have w0 : IntKind.i64.wrap (dt + n2) = dt + n2 := w_i64 (by omega) (by omega)
    have w1 : IntKind.i64.wrap (dt + n2 - dt) = n2 := by rw [show dt + n2 - dt = n2 by omega]; exact w_i64 (by omega) (by omega)
    by_cases k5 : 99999 < dt + n2
    · rw [if_pos (.inr (.inr k5))] at dv'
      simp (maxDischargeDepth := 16) only [argE_nil, argE_cons, ↓vmD, vmV, vmStd, Nat.reduceMul, ↓reduceIte, Nat.reduceAdd, Nat.reduceSub, Nat.reduceEqDiff, Nat.reduceLT, Nat.reduceLeDiff, reduceCtorEq, Int.reduceToNat, Int.reduceLT, Int.reduceLE, Int.reduceEq, Int.reduceNeg, Int.reduceBEq, Int.reduceBNe, String.reduceEq, forall_const, ↓vmDA, vmVA, ↓vmQA, vmR, vmRA, ↓vmSA, vmSV, tyS, nuE, SubA.skip, SubA.refl, fr.2, vbLdl, ↓sA_usd, ↓sA_ust, a3, a4, a5, b3, b4, b5, c3, c4, c5, d3, d4, d5, dv', ixU, ixN, bl4, cl, Nat.mul_one, Nat.zero_add, eq_false k3, eq_false k4, w0, eq_true k5]
      refine CallA.newX (awk_n A hT) (sub3 _ _ _) ?_
      rintro v B rfl hdB
      refine ⟨A, SubA.trans (sub3 _ _ _) hdB.right, ?_⟩
      clear nuE fr
      intro ν fr; have nuE := fr.nu
      simp (maxDischargeDepth := 16) only [argE_nil, argE_cons, ↓vmD, vmV, vmStd, Nat.reduceMul, ↓reduceIte, Nat.reduceAdd, Nat.reduceSub, Nat.reduceEqDiff, Nat.reduceLT, Nat.reduceLeDiff, reduceCtorEq, Int.reduceToNat, Int.reduceLT, Int.reduceLE, Int.reduceEq, Int.reduceNeg, Int.reduceBEq, Int.reduceBNe, String.reduceEq, forall_const, ↓vmDA, vmVA, ↓vmQA, vmR, vmRA, ↓vmSA, vmSV, tyS, nuE, SubA.skip, SubA.refl, fr.2, vbLdl, ↓sA_usd, ↓sA_ust]
    · rw [if_neg (by omega)] at dv'
      simp (maxDischargeDepth := 16) only [argE_nil, argE_cons, ↓vmD, vmV, vmStd, Nat.reduceMul, ↓reduceIte, Nat.reduceAdd, Nat.reduceSub, Nat.reduceEqDiff, Nat.reduceLT, Nat.reduceLeDiff, reduceCtorEq, Int.reduceToNat, Int.reduceLT, Int.reduceLE, Int.reduceEq, Int.reduceNeg, Int.reduceBEq, Int.reduceBNe, String.reduceEq, forall_const, ↓vmDA, vmVA, ↓vmQA, vmR, vmRA, ↓vmSA, vmSV, tyS, nuE, SubA.skip, SubA.refl, fr.2, vbLdl, ↓sA_usd, ↓sA_ust, a3, a4, a5, b3, b4, b5, c3, c4, c5, d3, d4, d5, dv', ixU, ixN, bl4, cl, Nat.mul_one, Nat.zero_add, eq_false k3, eq_false k4, w0, w1, eq_false k5]
      refine CallA.newX (awk_n A hT) (sub3 _ _ _) ?_
      rintro v B rfl hdB
      refine ⟨A, SubA.trans (sub3 _ _ _) hdB.right, ?_⟩
      clear nuE fr
      intro ν fr; have nuE := fr.nu
      simp (maxDischargeDepth := 16) only [argE_nil, argE_cons, ↓vmD, vmV, vmStd, Nat.reduceMul, ↓reduceIte, Nat.reduceAdd, Nat.reduceSub, Nat.reduceEqDiff, Nat.reduceLT, Nat.reduceLeDiff, reduceCtorEq, Int.reduceToNat, Int.reduceLT, Int.reduceLE, Int.reduceEq, Int.reduceNeg, Int.reduceBEq, Int.reduceBNe, String.reduceEq, forall_const, ↓vmDA, vmVA, ↓vmQA, vmR, vmRA, ↓vmSA, vmSV, tyS, nuE, SubA.skip, SubA.refl, fr.2, vbLdl, ↓sA_usd, ↓sA_ust]
  · subst hs
    rw [key n3 d1 d2 (by rfl)] at dv'
    by_cases k3 : dt < 0
    · rw [if_pos (.inl k3)] at dv'
      simp (maxDischargeDepth := 16) only [argE_nil, argE_cons, ↓vmD, vmV, vmStd, Nat.reduceMul, ↓reduceIte, Nat.reduceAdd, Nat.reduceSub, Nat.reduceEqDiff, Nat.reduceLT, Nat.reduceLeDiff, reduceCtorEq, Int.reduceToNat, Int.reduceLT, Int.reduceLE, Int.reduceEq, Int.reduceNeg, Int.reduceBEq, Int.reduceBNe, String.reduceEq, forall_const, ↓vmDA, vmVA, ↓vmQA, vmR, vmRA, ↓vmSA, vmSV, tyS, nuE, SubA.skip, SubA.refl, fr.2, vbLdl, ↓sA_usd, ↓sA_ust, a3, a4, a5, b3, b4, b5, c3, c4, c5, d3, d4, d5, dv', ixU, ixN, bl4, cl, Nat.mul_one, Nat.zero_add, eq_true k3]
      refine CallA.newX (awk_n A hT) (sub3 _ _ _) ?_
      rintro v B rfl hdB
      refine ⟨A, SubA.trans (sub3 _ _ _) hdB.right, ?_⟩
      clear nuE fr
      intro ν fr; have nuE := fr.nu
      simp (maxDischargeDepth := 16) only [argE_nil, argE_cons, ↓vmD, vmV, vmStd, Nat.reduceMul, ↓reduceIte, Nat.reduceAdd, Nat.reduceSub, Nat.reduceEqDiff, Nat.reduceLT, Nat.reduceLeDiff, reduceCtorEq, Int.reduceToNat, Int.reduceLT, Int.reduceLE, Int.reduceEq, Int.reduceNeg, Int.reduceBEq, Int.reduceBNe, String.reduceEq, forall_const, ↓vmDA, vmVA, ↓vmQA, vmR, vmRA, ↓vmSA, vmSV, tyS, nuE, SubA.skip, SubA.refl, fr.2, vbLdl, ↓sA_usd, ↓sA_ust]
    by_cases k4 : 99999 < dt
    · rw [if_pos (.inr (.inl k4))] at dv'
      simp (maxDischargeDepth := 16) only [argE_nil, argE_cons, ↓vmD, vmV, vmStd, Nat.reduceMul, ↓reduceIte, Nat.reduceAdd, Nat.reduceSub, Nat.reduceEqDiff, Nat.reduceLT, Nat.reduceLeDiff, reduceCtorEq, Int.reduceToNat, Int.reduceLT, Int.reduceLE, Int.reduceEq, Int.reduceNeg, Int.reduceBEq, Int.reduceBNe, String.reduceEq, forall_const, ↓vmDA, vmVA, ↓vmQA, vmR, vmRA, ↓vmSA, vmSV, tyS, nuE, SubA.skip, SubA.refl, fr.2, vbLdl, ↓sA_usd, ↓sA_ust, a3, a4, a5, b3, b4, b5, c3, c4, c5, d3, d4, d5, dv', ixU, ixN, bl4, cl, Nat.mul_one, Nat.zero_add, eq_false k3, eq_true k4]
      refine CallA.newX (awk_n A hT) (sub3 _ _ _) ?_
      rintro v B rfl hdB
      refine ⟨A, SubA.trans (sub3 _ _ _) hdB.right, ?_⟩
      clear nuE fr
      intro ν fr; have nuE := fr.nu
      simp (maxDischargeDepth := 16) only [argE_nil, argE_cons, ↓vmD, vmV, vmStd, Nat.reduceMul, ↓reduceIte, Nat.reduceAdd, Nat.reduceSub, Nat.reduceEqDiff, Nat.reduceLT, Nat.reduceLeDiff, reduceCtorEq, Int.reduceToNat, Int.reduceLT, Int.reduceLE, Int.reduceEq, Int.reduceNeg, Int.reduceBEq, Int.reduceBNe, String.reduceEq, forall_const, ↓vmDA, vmVA, ↓vmQA, vmR, vmRA, ↓vmSA, vmSV, tyS, nuE, SubA.skip, SubA.refl, fr.2, vbLdl, ↓sA_usd, ↓sA_ust]
    have w0 : IntKind.i64.wrap (dt + n3) = dt + n3 := w_i64 (by omega) (by omega)
    have w1 : IntKind.i64.wrap (dt + n3 - dt) = n3 := by rw [show dt + n3 - dt = n3 by omega]; exact w_i64 (by omega) (by omega)
    by_cases k5 : 99999 < dt + n3
    · rw [if_pos (.inr (.inr k5))] at dv'
      simp (maxDischargeDepth := 16) only [argE_nil, argE_cons, ↓vmD, vmV, vmStd, Nat.reduceMul, ↓reduceIte, Nat.reduceAdd, Nat.reduceSub, Nat.reduceEqDiff, Nat.reduceLT, Nat.reduceLeDiff, reduceCtorEq, Int.reduceToNat, Int.reduceLT, Int.reduceLE, Int.reduceEq, Int.reduceNeg, Int.reduceBEq, Int.reduceBNe, String.reduceEq, forall_const, ↓vmDA, vmVA, ↓vmQA, vmR, vmRA, ↓vmSA, vmSV, tyS, nuE, SubA.skip, SubA.refl, fr.2, vbLdl, ↓sA_usd, ↓sA_ust, a3, a4, a5, b3, b4, b5, c3, c4, c5, d3, d4, d5, dv', ixU, ixN, bl4, cl, Nat.mul_one, Nat.zero_add, eq_false k3, eq_false k4, w0, eq_true k5]
      refine CallA.newX (awk_n A hT) (sub3 _ _ _) ?_
      rintro v B rfl hdB
      refine ⟨A, SubA.trans (sub3 _ _ _) hdB.right, ?_⟩
      clear nuE fr
      intro ν fr; have nuE := fr.nu
      simp (maxDischargeDepth := 16) only [argE_nil, argE_cons, ↓vmD, vmV, vmStd, Nat.reduceMul, ↓reduceIte, Nat.reduceAdd, Nat.reduceSub, Nat.reduceEqDiff, Nat.reduceLT, Nat.reduceLeDiff, reduceCtorEq, Int.reduceToNat, Int.reduceLT, Int.reduceLE, Int.reduceEq, Int.reduceNeg, Int.reduceBEq, Int.reduceBNe, String.reduceEq, forall_const, ↓vmDA, vmVA, ↓vmQA, vmR, vmRA, ↓vmSA, vmSV, tyS, nuE, SubA.skip, SubA.refl, fr.2, vbLdl, ↓sA_usd, ↓sA_ust]
    · rw [if_neg (by omega)] at dv'
      simp (maxDischargeDepth := 16) only [argE_nil, argE_cons, ↓vmD, vmV, vmStd, Nat.reduceMul, ↓reduceIte, Nat.reduceAdd, Nat.reduceSub, Nat.reduceEqDiff, Nat.reduceLT, Nat.reduceLeDiff, reduceCtorEq, Int.reduceToNat, Int.reduceLT, Int.reduceLE, Int.reduceEq, Int.reduceNeg, Int.reduceBEq, Int.reduceBNe, String.reduceEq, forall_const, ↓vmDA, vmVA, ↓vmQA, vmR, vmRA, ↓vmSA, vmSV, tyS, nuE, SubA.skip, SubA.refl, fr.2, vbLdl, ↓sA_usd, ↓sA_ust, a3, a4, a5, b3, b4, b5, c3, c4, c5, d3, d4, d5, dv', ixU, ixN, bl4, cl, Nat.mul_one, Nat.zero_add, eq_false k3, eq_false k4, w0, w1, eq_false k5]
      refine CallA.newX (awk_n A hT) (sub3 _ _ _) ?_
      rintro v B rfl hdB
      refine ⟨A, SubA.trans (sub3 _ _ _) hdB.right, ?_⟩
      clear nuE fr
      intro ν fr; have nuE := fr.nu
      simp (maxDischargeDepth := 16) only [argE_nil, argE_cons, ↓vmD, vmV, vmStd, Nat.reduceMul, ↓reduceIte, Nat.reduceAdd, Nat.reduceSub, Nat.reduceEqDiff, Nat.reduceLT, Nat.reduceLeDiff, reduceCtorEq, Int.reduceToNat, Int.reduceLT, Int.reduceLE, Int.reduceEq, Int.reduceNeg, Int.reduceBEq, Int.reduceBNe, String.reduceEq, forall_const, ↓vmDA, vmVA, ↓vmQA, vmR, vmRA, ↓vmSA, vmSV, tyS, nuE, SubA.skip, SubA.refl, fr.2, vbLdl, ↓sA_usd, ↓sA_ust]
theorem deadLaw_w (A : AH) (hT : TabA A) (a b c d : Int) (ha : 0 ≤ a ∧ a ≤ 65535) (hb : 0 ≤ b ∧ b ≤ 65535) (hc : 0 ≤ c ∧ c ≤ 65535) (hd : 0 ≤ d ∧ d ≤ 65535) (st dt : Int) (B_ : AH) (hB_ : SubA A B_) : valA Tryd.prog 6 #[.agg #[.int .u16 a, .int .u16 b, .int .u16 c, .int .u16 d], .int .i64 st, .int .i64 dt] B_ = some (.bool true) := valA_eq (pureA_at (by kernel_rfl) (deadLaw_h A hT a b c d ha hb hc hd st dt) hB_)
theorem deadLaw_v (A : AH) (hT : TabA A) (a b c d : Int) (ha : 0 ≤ a ∧ a ≤ 65535) (hb : 0 ≤ b ∧ b ≤ 65535) (hc : 0 ≤ c ∧ c ≤ 65535) (hd : 0 ≤ d ∧ d ≤ 65535) (st dt : Int) : valA Tryd.prog 6 #[.agg #[.int .u16 a, .int .u16 b, .int .u16 c, .int .u16 d], .int .i64 st, .int .i64 dt] A = some (.bool true) := valA_eq (pureA_at (by kernel_rfl) (deadLaw_h A hT a b c d ha hb hc hd st dt) (SubA.refl _))
theorem wf_u16 {n : Int} (h : (Lit.int .u16 n).wf = true) : 0 ≤ n ∧ n ≤ 65535 := by
  simp [Lit.wf, IntKind.min, IntKind.max, IntKind.bits, IntKind.signed] at h
  omega
theorem deadlines_walk (w : World) (ht : Lib.TabIs Tryd.prog w "internal/strconv.uint64pow10" .u64 Lib.pow10Tab) (a0 : Array Value) (w0 : Vm.FitsArr .u16 4 a0.toList) (a1 : Int) (w1 : (Lit.int .i64 a1).wf = true) (a2 : Int) (w2 : (Lit.int .i64 a2).wf = true) :
    CallsH Tryd.prog 6 #[.agg a0, .int .i64 a1, .int .i64 a2] w.heap fun e h' => e = .returned (.bool true) ∧ Grew w.heap h' := by
  obtain ⟨B, hB, hT⟩ := TabA.of ht
  obtain ⟨ns, h4, he, hw⟩ := w0
  match ns, h4 with
  | [a, b, c, d], _ =>
    obtain rfl : a0 = #[.int .u16 a, .int .u16 b, .int .u16 c, .int .u16 d] := by apply Array.ext'; rw [he]; rfl
    exact callsH_of_pure (deadLaw_v B hT a b c d (wf_u16 (hw a (by simp))) (wf_u16 (hw b (by simp))) (wf_u16 (hw c (by simp))) (wf_u16 (hw d (by simp))) a1 a2) (by kernel_rfl) hB
end Go.Proofs.YtamiclgnehfhpaaDoor
