/-
Disputes: the law of the ends.
Conditions: none.
-/
import Derived.Test.YtkkpmcomloekoaaDse
namespace Go.Proofs.Ytkkpmcomloekoaa
open Go.Vm
set_option linter.unusedSimpArgs false
set_option linter.unusedVariables false
set_option maxHeartbeats 4000000
set_option maxRecDepth 20000
theorem folP_h (A : AH) (l : List Int) (s : Int) (p : Option Addr) (cap : Nat) (hL : StR intC 1 A p l) (hc : ChainH l s) : CallA Try.prog 18 #[.slice p l.length cap] A (fun u_ A_ => u_ = .bool true ∧ SubA A A_) := by
  refine callA_of_denA ⟨Try.prog, 18, Try.f18, 57, [0, 2, 3, 4, 5, 6, 7], [], [], _⟩ (args := [_]) Try.func18 rfl (by kernel_rfl) Try.ntmps18 (by simp) (by kernel_rfl) ?_
  intro ν fr; have nuE := fr.nu
  obtain ⟨c1, c2, c3, c4, c5⟩ := hc
  obtain ⟨bk, off, cs, ty, fr0, hp0, hbk, hcr, hcc⟩ := hL.at c3
  subst hp0
  have hc0 : cs[off + 0 * 1]? = some (.int .i64 1) := hcc 0 _ rfl
  simp only [Nat.zero_mul, Nat.add_zero] at hc0
  have q1 : ((l.length : Int) < 1) = False := eq_false (by omega)
  have q2 : ((5 : Int) < (l.length : Int)) = False := eq_false (by omega)
  have q3 : ((0 : Int) < (l.length : Int)) = True := eq_true (by omega)
  simp (maxDischargeDepth := 16) only [argE_nil, argE_cons, ↓vmD, vmV, vmStd, Nat.reduceMul, ↓reduceIte, Nat.reduceAdd, Nat.reduceSub, Nat.reduceEqDiff, Nat.reduceLT, Nat.reduceLeDiff, reduceCtorEq, Int.reduceToNat, Int.reduceLT, Int.reduceLE, Int.reduceEq, Int.reduceNeg, Int.reduceBEq, Int.reduceBNe, String.reduceEq, forall_const, ↓vmDA, vmVA, ↓vmQA, vmR, vmRA, ↓vmSA, vmSV, tyS, nuE, SubA.skip, SubA.refl, fr.2, slIndexByte_v, indexByte_v, indexRune_v, containsRune_v, classOf_v, isWordByte_v, wordAt_v, isName_v, possible_v, days_v, due_v, evName_v, evCheck_v, dNext_v, rNext_v, dTurn_v, rTurn_v, recId_v, moneyCur_v, inTotal_v, exCard_v, recCheck_v, dspId_v, awk46_v, q1, q2, q3, hbk, hc0]
  clear nuE fr hcr hcc
  have hcc2 : ∀ (i : Nat) (x : Int), l[i]? = some x → cs[off + i]? = some (.int .i64 x) := fun i x hx => by
    obtain ⟨bk', off', cs', ty', fr', hp', hbk', _, hcc'⟩ := hL.at hx
    cases hp'
    rw [hbk] at hbk'
    cases hbk'
    have := hcc' 0 _ rfl
    simpa using this
  obtain ⟨i, m, hi, hm⟩ : ∃ i m : Nat, i = 1 ∧ l.length = i + m := ⟨1, l.length - 1, rfl, by omega⟩
  rw [show (3, some (Value.int .i64 1)) = (3, some (Value.int .i64 (i : Int))) by rw [hi]; rfl]
  replace hi : 1 ≤ i := by omega
  induction m generalizing i with
  | zero =>
    have lt : ((i : Int) < (l.length : Int)) = False := eq_false (by omega)
    refine LoopA.intro (by kernel_rfl) ?_
    intro ν fr; have nuE := fr.nu
    simp (maxDischargeDepth := 16) only [argE_nil, argE_cons, ↓vmD, vmV, vmStd, Nat.reduceMul, ↓reduceIte, Nat.reduceAdd, Nat.reduceSub, Nat.reduceEqDiff, Nat.reduceLT, Nat.reduceLeDiff, reduceCtorEq, Int.reduceToNat, Int.reduceLT, Int.reduceLE, Int.reduceEq, Int.reduceNeg, Int.reduceBEq, Int.reduceBNe, String.reduceEq, forall_const, ↓vmDA, vmVA, ↓vmQA, vmR, vmRA, ↓vmSA, vmSV, tyS, nuE, SubA.skip, SubA.refl, fr.2, slIndexByte_v, indexByte_v, indexRune_v, containsRune_v, classOf_v, isWordByte_v, wordAt_v, isName_v, possible_v, days_v, due_v, evName_v, evCheck_v, dNext_v, rNext_v, dTurn_v, rTurn_v, recId_v, moneyCur_v, inTotal_v, exCard_v, recCheck_v, dspId_v, awk46_v, lt]
  | succ m ih =>
    have lt : ((i : Int) < (l.length : Int)) = True := eq_true (by omega)
    have we : IntKind.i64.wrap ((i : Int) + 1) = ((i + 1 : Nat) : Int) := by rw [w_i64 (by omega) (by omega)]; omega
    obtain ⟨j, rfl⟩ : ∃ j, i = j + 1 := ⟨i - 1, by omega⟩
    have wj : IntKind.i64.wrap (((j + 1 : Nat) : Int) - 1) = (j : Int) := by rw [w_i64 (by omega) (by omega)]; omega
    obtain ⟨a, ha⟩ : ∃ a, l[j]? = some a := ⟨_, List.getElem?_eq_getElem (by omega)⟩
    obtain ⟨b, hb⟩ : ∃ b, l[j + 1]? = some b := ⟨_, List.getElem?_eq_getElem (by omega)⟩
    have ca : cs[off + j * 1]? = some (.int .i64 a) := by rw [Nat.mul_one]; exact hcc2 j a ha
    have cb : cs[off + (j + 1) * 1]? = some (.int .i64 b) := by rw [Nat.mul_one]; exact hcc2 (j + 1) b hb
    have la : ((j : Int) < (l.length : Int)) = True := eq_true (by omega)
    have l0 : ((j : Int) < 0) = False := eq_false (by omega)
    have l1 : (((j + 1 : Nat) : Int) < 0) = False := eq_false (by omega)
    obtain ⟨v, v1, v2, hv⟩ := c5 j a b ha hb
    refine LoopA.intro (by kernel_rfl) ?_
    intro ν fr; have nuE := fr.nu
    simp (maxDischargeDepth := 16) only [argE_nil, argE_cons, ↓vmD, vmV, vmStd, Nat.reduceMul, ↓reduceIte, Nat.reduceAdd, Nat.reduceSub, Nat.reduceEqDiff, Nat.reduceLT, Nat.reduceLeDiff, reduceCtorEq, Int.reduceToNat, Int.reduceLT, Int.reduceLE, Int.reduceEq, Int.reduceNeg, Int.reduceBEq, Int.reduceBNe, String.reduceEq, forall_const, ↓vmDA, vmVA, ↓vmQA, vmR, vmRA, ↓vmSA, vmSV, tyS, nuE, SubA.skip, SubA.refl, fr.2, slIndexByte_v, indexByte_v, indexRune_v, containsRune_v, classOf_v, isWordByte_v, wordAt_v, isName_v, possible_v, days_v, due_v, evName_v, evCheck_v, dNext_v, rNext_v, dTurn_v, rTurn_v, recId_v, moneyCur_v, inTotal_v, exCard_v, recCheck_v, dspId_v, awk46_v, lt]
    clear nuE fr
    obtain ⟨ev, n, ok, hev, hok, hn, hv1, hinv⟩ : ∃ (ev : Int) (n : Nat) (ok : Bool), ev = 1 ∧ ok = false ∧ ev + n = 8 ∧ 1 ≤ ev ∧ (ok = true ∨ ev ≤ v) := ⟨1, 7, false, rfl, rfl, rfl, by omega, .inr v1⟩
    rw [show (5, some (Value.int .i64 1)) = (5, some (Value.int .i64 ev)) by rw [hev]]
    rw [show (4, some (Value.bool false)) = (4, some (Value.bool ok)) by rw [hok]]
    clear hev hok
    induction n generalizing ev ok with
    | zero =>
      have le : (ev ≤ 7) = False := eq_false (by omega)
      have hok : ok = true := by rcases hinv with h | h; · exact h
                                 · omega
      subst hok
      refine LoopA.intro (by kernel_rfl) ?_
      intro ν fr; have nuE := fr.nu
      simp (maxDischargeDepth := 16) only [argE_nil, argE_cons, ↓vmD, vmV, vmStd, Nat.reduceMul, ↓reduceIte, Nat.reduceAdd, Nat.reduceSub, Nat.reduceEqDiff, Nat.reduceLT, Nat.reduceLeDiff, reduceCtorEq, Int.reduceToNat, Int.reduceLT, Int.reduceLE, Int.reduceEq, Int.reduceNeg, Int.reduceBEq, Int.reduceBNe, String.reduceEq, forall_const, ↓vmDA, vmVA, ↓vmQA, vmR, vmRA, ↓vmSA, vmSV, tyS, nuE, SubA.skip, SubA.refl, fr.2, slIndexByte_v, indexByte_v, indexRune_v, containsRune_v, classOf_v, isWordByte_v, wordAt_v, isName_v, possible_v, days_v, due_v, evName_v, evCheck_v, dNext_v, rNext_v, dTurn_v, rTurn_v, recId_v, moneyCur_v, inTotal_v, exCard_v, recCheck_v, dspId_v, awk46_v, le, we]
      exact LoopA.weak (ih (j + 1 + 1) (by omega) (by omega)) (by simp only [subE, get_cons, Nat.reduceEqDiff, ↓reduceIte, reduceCtorEq, Nat.reduceAdd, and_self, and_true]) (SubA.refl _)
    | succ n ih2 =>
      have le : (ev ≤ 7) = True := eq_true (by omega)
      have wev : IntKind.i64.wrap (ev + 1) = ev + 1 := w_i64 (by omega) (by omega)
      refine LoopA.intro (by kernel_rfl) ?_
      intro ν fr; have nuE := fr.nu
      simp (maxDischargeDepth := 16) only [argE_nil, argE_cons, ↓vmD, vmV, vmStd, Nat.reduceMul, ↓reduceIte, Nat.reduceAdd, Nat.reduceSub, Nat.reduceEqDiff, Nat.reduceLT, Nat.reduceLeDiff, reduceCtorEq, Int.reduceToNat, Int.reduceLT, Int.reduceLE, Int.reduceEq, Int.reduceNeg, Int.reduceBEq, Int.reduceBNe, String.reduceEq, forall_const, ↓vmDA, vmVA, ↓vmQA, vmR, vmRA, ↓vmSA, vmSV, tyS, nuE, SubA.skip, SubA.refl, fr.2, slIndexByte_v, indexByte_v, indexRune_v, containsRune_v, classOf_v, isWordByte_v, wordAt_v, isName_v, possible_v, days_v, due_v, evName_v, evCheck_v, dNext_v, rNext_v, dTurn_v, rTurn_v, recId_v, moneyCur_v, inTotal_v, exCard_v, recCheck_v, dspId_v, awk46_v, le, wj, hbk, ca, cb, la, l0, l1, lt, wev]
      cases ok with
      | true =>
        simp only [Bool.true_eq_false, if_false]
        exact LoopA.weak (ih2 (ev + 1) true (by omega) (by omega) (.inl rfl)) (by simp only [subE, get_cons, Nat.reduceEqDiff, ↓reduceIte, reduceCtorEq, Nat.reduceAdd, and_self, and_true]) (SubA.refl _)
      | false =>
        have hle : ev ≤ v := by
          rcases hinv with h | h
          · cases h
          · exact h
        simp only [if_true]
        by_cases hz : (nextF a ev).2 = 0
        · rw [if_pos hz]
          refine LoopA.weak (ih2 (ev + 1) ((nextF a ev).1 == b) (by omega) (by omega) ?_) (by simp only [subE, get_cons, Nat.reduceEqDiff, ↓reduceIte, reduceCtorEq, Nat.reduceAdd, and_self, and_true]) (SubA.refl _)
          by_cases e : ev = v
          · exact .inl (by rw [e, hv]; simp)
          · exact .inr (by omega)
        · rw [if_neg hz]
          refine LoopA.weak (ih2 (ev + 1) false (by omega) (by omega) (.inr ?_)) (by simp only [subE, get_cons, Nat.reduceEqDiff, ↓reduceIte, reduceCtorEq, Nat.reduceAdd, and_self, and_true]) (SubA.refl _)
          by_cases e : ev = v
          · rw [e, hv] at hz; exact absurd rfl hz
          · omega
theorem folP_w (A : AH) (l : List Int) (s : Int) (p : Option Addr) (cap : Nat) (hL : StR intC 1 A p l) (hc : ChainH l s) (B_ : AH) (hB_ : SubA A B_) : valA Try.prog 18 #[.slice p l.length cap] B_ = some (.bool true) := valA_eq (pureA_at (by kernel_rfl) (folP_h A l s p cap hL hc) hB_)
theorem folP_v (A : AH) (l : List Int) (s : Int) (p : Option Addr) (cap : Nat) (hL : StR intC 1 A p l) (hc : ChainH l s) : valA Try.prog 18 #[.slice p l.length cap] A = some (.bool true) := valA_eq (pureA_at (by kernel_rfl) (folP_h A l s p cap hL hc) (SubA.refl _))
/-- A case in memory. -/
theorem endsLaw_h (A : AH) (L : List Rs) (p : Option Addr) (cap : Nat) (hL : RsR A p L) (hl : L.length ≤ cap ∧ cap ≤ 9223372036854775807) (M : List DoT) (q : Option Addr) (qcap : Nat) (hM : DoR A q M) : CallA Try.prog 5 #[.slice p L.length cap, .slice q M.length qcap] A (fun u_ A_ => u_ = .bool true ∧ SubA A A_) := by
  refine callA_of_denA ⟨Try.prog, 5, Try.f5, 161, [0, 1, 4, 5, 6, 7, 8, 9, 10, 11, 12, 13], [11, 12, 15, 14, 16, 17], [(22, .q false), (24, .q false)], _⟩ (args := [_, _]) Try.func5 rfl (by kernel_rfl) Try.ntmps5 (by simp) (by kernel_rfl) ?_
  intro ν fr; have nuE := fr.nu
  simp (maxDischargeDepth := 16) only [argE_nil, argE_cons, ↓vmD, vmV, vmStd, Nat.reduceMul, ↓reduceIte, Nat.reduceAdd, Nat.reduceSub, Nat.reduceEqDiff, Nat.reduceLT, Nat.reduceLeDiff, reduceCtorEq, Int.reduceToNat, Int.reduceLT, Int.reduceLE, Int.reduceEq, Int.reduceNeg, Int.reduceBEq, Int.reduceBNe, String.reduceEq, forall_const, ↓vmDA, vmVA, ↓vmQA, vmR, vmRA, ↓vmSA, vmSV, tyS, nuE, SubA.skip, SubA.refl, fr.2, slIndexByte_v, indexByte_v, indexRune_v, containsRune_v, classOf_v, isWordByte_v, wordAt_v, isName_v, possible_v, days_v, due_v, evName_v, evCheck_v, dNext_v, rNext_v, dTurn_v, rTurn_v, recId_v, moneyCur_v, inTotal_v, exCard_v, recCheck_v, dspId_v, awk46_v]
  refine CallA.newX (small_n A L p cap hL M q qcap hM) (SubA.refl A) ?_
  rintro v B ⟨b, rfl, hb⟩ hd
  refine ⟨A, hd.right, ?_⟩
  intro ν fr; have nuE := fr.nu
  cases b with
  | false => simp (maxDischargeDepth := 16) only [argE_nil, argE_cons, ↓vmD, vmV, vmStd, Nat.reduceMul, ↓reduceIte, Nat.reduceAdd, Nat.reduceSub, Nat.reduceEqDiff, Nat.reduceLT, Nat.reduceLeDiff, reduceCtorEq, Int.reduceToNat, Int.reduceLT, Int.reduceLE, Int.reduceEq, Int.reduceNeg, Int.reduceBEq, Int.reduceBNe, String.reduceEq, forall_const, ↓vmDA, vmVA, ↓vmQA, vmR, vmRA, ↓vmSA, vmSV, tyS, nuE, SubA.skip, SubA.refl, fr.2, slIndexByte_v, indexByte_v, indexRune_v, containsRune_v, classOf_v, isWordByte_v, wordAt_v, isName_v, possible_v, days_v, due_v, evName_v, evCheck_v, dNext_v, rNext_v, dTurn_v, rTurn_v, recId_v, moneyCur_v, inTotal_v, exCard_v, recCheck_v, dspId_v, awk46_v]
  | true =>
  obtain ⟨h40, h80⟩ := hb rfl
  simp (maxDischargeDepth := 16) only [argE_nil, argE_cons, ↓vmD, vmV, vmStd, Nat.reduceMul, ↓reduceIte, Nat.reduceAdd, Nat.reduceSub, Nat.reduceEqDiff, Nat.reduceLT, Nat.reduceLeDiff, reduceCtorEq, Int.reduceToNat, Int.reduceLT, Int.reduceLE, Int.reduceEq, Int.reduceNeg, Int.reduceBEq, Int.reduceBNe, String.reduceEq, forall_const, ↓vmDA, vmVA, ↓vmQA, vmR, vmRA, ↓vmSA, vmSV, tyS, nuE, SubA.skip, SubA.refl, fr.2, slIndexByte_v, indexByte_v, indexRune_v, containsRune_v, classOf_v, isWordByte_v, wordAt_v, isName_v, possible_v, days_v, due_v, evName_v, evCheck_v, dNext_v, rNext_v, dTurn_v, rTurn_v, recId_v, moneyCur_v, inTotal_v, exCard_v, recCheck_v, dspId_v, awk46_v]
  clear nuE fr hd
  refine CallA.newX (new_n A L p cap hL hl) (SubA.refl A) ?_
  rintro v E h hd
  rcases h with ⟨h1, rfl⟩ | ⟨_, db, R, rfl, hE0, hR⟩
  · refine ⟨A, hd.right, ?_⟩
    intro ν fr; have nuE := fr.nu
    simp (maxDischargeDepth := 16) only [argE_nil, argE_cons, ↓vmD, vmV, vmStd, Nat.reduceMul, ↓reduceIte, Nat.reduceAdd, Nat.reduceSub, Nat.reduceEqDiff, Nat.reduceLT, Nat.reduceLeDiff, reduceCtorEq, Int.reduceToNat, Int.reduceLT, Int.reduceLE, Int.reduceEq, Int.reduceNeg, Int.reduceBEq, Int.reduceBNe, String.reduceEq, forall_const, ↓vmDA, vmVA, ↓vmQA, vmR, vmRA, ↓vmSA, vmSV, tyS, nuE, SubA.skip, SubA.refl, fr.2, slIndexByte_v, indexByte_v, indexRune_v, containsRune_v, classOf_v, isWordByte_v, wordAt_v, isName_v, possible_v, days_v, due_v, evName_v, evCheck_v, dNext_v, rNext_v, dTurn_v, rTurn_v, recId_v, moneyCur_v, inTotal_v, exCard_v, recCheck_v, dspId_v, awk46_v, h1]
  refine ⟨E ++ A, SubA.refl _, ?_⟩
  intro ν fr; have nuE := fr.nu
  simp (maxDischargeDepth := 16) only [argE_nil, argE_cons, ↓vmD, vmV, vmStd, Nat.reduceMul, ↓reduceIte, Nat.reduceAdd, Nat.reduceSub, Nat.reduceEqDiff, Nat.reduceLT, Nat.reduceLeDiff, reduceCtorEq, Int.reduceToNat, Int.reduceLT, Int.reduceLE, Int.reduceEq, Int.reduceNeg, Int.reduceBEq, Int.reduceBNe, String.reduceEq, forall_const, ↓vmDA, vmVA, ↓vmQA, vmR, vmRA, ↓vmSA, vmSV, tyS, nuE, SubA.skip, SubA.refl, fr.2, slIndexByte_v, indexByte_v, indexRune_v, containsRune_v, classOf_v, isWordByte_v, wordAt_v, isName_v, possible_v, days_v, due_v, evName_v, evCheck_v, dNext_v, rNext_v, dTurn_v, rTurn_v, recId_v, moneyCur_v, inTotal_v, exCard_v, recCheck_v, dspId_v, awk46_v]
  have hF0 : FdsOk (([] : List Fo).map Fo.d) := ⟨(fun f hf => by cases hf), by simp, by simp⟩
  have hC0 : FdsC (([] : List Fo).map Fo.d) := fun f hf => by cases hf
  obtain ⟨e, l, fv, F, X, wp, wcap, he, hdl, hle, hE, hF, hC, hX, hAX, hw, hsub, hwv⟩ : ∃ (e : Nat) (l : List DoT) (fv : Value) (F : List Fo) (X : AH) (wp : Option Addr) (wcap : Nat), e = 0 ∧ l = M.drop e ∧ e ≤ M.length ∧ DkP E db fv R F ∧ FdsOk (F.map Fo.d) ∧ FdsC (F.map Fo.d) ∧ Dis E X ∧ SubA A X ∧ StR caC 10 X wp (F.map fun f => f.d.c) ∧ SubA (E ++ X) (E ++ A) ∧ Value.slice none 0 0 = .slice wp F.length wcap :=
    ⟨0, M, _, [], A, none, 0, rfl, rfl, by omega, hE0, hF0, hC0, hd, SubA.refl _, StR.nil, SubA.refl _, rfl⟩
  rw [show (8, some (Value.int .i64 0)) = (8, some (Value.int .i64 (e : Int))) by rw [he]; rfl]
  rw [show (7, some (Value.slice none 0 0)) = (7, some (Value.slice wp F.length wcap)) by rw [hwv]]
  refine LoopA.at hsub ?_
  clear he nuE fr hF0 hC0 hE0 hwv hsub hd
  induction l generalizing e E fv F X wp wcap with
  | nil =>
    obtain ⟨hn1, hn2⟩ := drop_nil hdl hle
    have lt : ((e : Int) < (M.length : Int)) = False := eq_false (by omega)
    refine LoopA.intro (by kernel_rfl) ?_
    intro ν fr; have nuE := fr.nu
    simp (maxDischargeDepth := 16) only [argE_nil, argE_cons, ↓vmD, vmV, vmStd, Nat.reduceMul, ↓reduceIte, Nat.reduceAdd, Nat.reduceSub, Nat.reduceEqDiff, Nat.reduceLT, Nat.reduceLeDiff, reduceCtorEq, Int.reduceToNat, Int.reduceLT, Int.reduceLE, Int.reduceEq, Int.reduceNeg, Int.reduceBEq, Int.reduceBNe, String.reduceEq, forall_const, ↓vmDA, vmVA, ↓vmQA, vmR, vmRA, ↓vmSA, vmSV, tyS, nuE, SubA.skip, SubA.refl, fr.2, slIndexByte_v, indexByte_v, indexRune_v, containsRune_v, classOf_v, isWordByte_v, wordAt_v, isName_v, possible_v, days_v, due_v, evName_v, evCheck_v, dNext_v, rNext_v, dTurn_v, rTurn_v, recId_v, moneyCur_v, inTotal_v, exCard_v, recCheck_v, dspId_v, awk46_v, lt]
    exact hAX.trans hX.right
  | cons x l ih =>
    obtain ⟨ha, hlt, hd', htk⟩ := drop_some hdl
    have lt : ((e : Int) < (M.length : Int)) = True := eq_true (by omega)
    have we : IntKind.i64.wrap ((e : Int) + 1) = ((e + 1 : Nat) : Int) := by rw [w_i64 (by omega) (by omega)]; omega
    obtain ⟨bk, off, cs, ty, fr0, hp0, hbk, hcr, hcc⟩ := hM.1.at ha
    obtain ⟨hk255, hI, hil⟩ := hM.2 x (List.mem_of_getElem? ha)
    have li : ((e : Int) < 0) = False := eq_false (by omega)
    simp only [doC] at hcr
    subst hp0
    have hbk2 := hX.right _ _ (hAX _ _ hbk)
    have hlen := hF.2.1
    have hrun := run_ok (R := R.map Rs.d) hF x
    obtain ⟨rc1, rc2, rc3⟩ := run_co (R := R.map Rs.d) hF hC x
    have km : ((x.kd : Int)).tmod 3 = ((x.kd % 3 : Nat) : Int) := by rw [Int.tmod_eq_emod_of_nonneg (by omega)]; omega
    have kw : IntKind.u8.wrap (((x.kd % 3 : Nat) : Int)) = ((x.kd % 3 : Nat) : Int) := w_u8 (by omega) (by omega)
    refine LoopA.intro (by kernel_rfl) ?_
    intro ν fr; have nuE := fr.nu
    have f0 := fr.2 0
    by_cases h2 : x.kd % 3 = 2
    · have h2' : (((x.kd % 3 : Nat) : Int) = 2) = True := eq_true (by omega)
      simp (maxDischargeDepth := 16) only [argE_nil, argE_cons, ↓vmD, vmV, vmStd, Nat.reduceMul, ↓reduceIte, Nat.reduceAdd, Nat.reduceSub, Nat.reduceEqDiff, Nat.reduceLT, Nat.reduceLeDiff, reduceCtorEq, Int.reduceToNat, Int.reduceLT, Int.reduceLE, Int.reduceEq, Int.reduceNeg, Int.reduceBEq, Int.reduceBNe, String.reduceEq, forall_const, ↓vmDA, vmVA, ↓vmQA, vmR, vmRA, ↓vmSA, vmSV, tyS, nuE, SubA.skip, SubA.refl, fr.2, slIndexByte_v, indexByte_v, indexRune_v, containsRune_v, classOf_v, isWordByte_v, wordAt_v, isName_v, possible_v, days_v, due_v, evName_v, evCheck_v, dNext_v, rNext_v, dTurn_v, rTurn_v, recId_v, moneyCur_v, inTotal_v, exCard_v, recCheck_v, dspId_v, awk46_v, lt, li, hbk2, hcr, km, kw, h2']
      have dst_ : True := (by simp [nuE]); generalize ν 0 = n0 at dst_  f0 ⊢
      clear nuE fr dst_
      have fE : Vm.look E n0 = none := (SubA.left E X).none f0
      refine exp_use (expP_h E ((n0, (Obj.cells #[.int .u8 (x.kd : Int), .string (bs x.id), .string (bs x.code), .int .i64 x.r.kd, .string (bs x.r.id), .string (bs x.r.au), .string (bs x.r.aq), .string (bs x.r.is), .string (bs x.r.me), .string (bs x.r.ca), .int .i64 x.r.am, .string (bs x.r.cu), .int .i64 x.r.da, .int .i64 x.r.ct, .bool x.r.fi, .int .i64 x.am, .int .i64 x.ev, .int .i64 x.dt, .slice x.ip x.its.length x.ic] 40)) :: X) db fv R F hE (dis_cons fE hX) hF x.dt) (cons_back fE) ?_
      intro u B E' F' g0 g1 g2 g3 g4
      have hr : runX (R.map Rs.d) (F.map Fo.d) x = (expX (R.map Rs.d) (F.map Fo.d) x.dt).2 := if_pos h2
      rw [← hr] at g2
      have hXn : SubA X ((n0, (Obj.cells #[.int .u8 (x.kd : Int), .string (bs x.id), .string (bs x.code), .int .i64 x.r.kd, .string (bs x.r.id), .string (bs x.r.au), .string (bs x.r.aq), .string (bs x.r.is), .string (bs x.r.me), .string (bs x.r.ca), .int .i64 x.r.am, .string (bs x.r.cu), .int .i64 x.r.da, .int .i64 x.r.ct, .bool x.r.fi, .int .i64 x.am, .int .i64 x.ev, .int .i64 x.dt, .slice x.ip x.its.length x.ic] 40)) :: X) := SubA.skip (hX.right.none f0) (SubA.refl X)
      obtain ⟨Y, hY, hYn, hXY, hEY⟩ : ∃ Y, Y = B ++ ((n0, (Obj.cells #[.int .u8 (x.kd : Int), .string (bs x.id), .string (bs x.code), .int .i64 x.r.kd, .string (bs x.r.id), .string (bs x.r.au), .string (bs x.r.aq), .string (bs x.r.is), .string (bs x.r.me), .string (bs x.r.ca), .int .i64 x.r.am, .string (bs x.r.cu), .int .i64 x.r.da, .int .i64 x.r.ct, .bool x.r.fi, .int .i64 x.am, .int .i64 x.ev, .int .i64 x.dt, .slice x.ip x.its.length x.ic] 40)) :: X) ∧ Vm.look Y n0 = some (Obj.cells #[.int .u8 (x.kd : Int), .string (bs x.id), .string (bs x.code), .int .i64 x.r.kd, .string (bs x.r.id), .string (bs x.r.au), .string (bs x.r.aq), .string (bs x.r.is), .string (bs x.r.me), .string (bs x.r.ca), .int .i64 x.r.am, .string (bs x.r.cu), .int .i64 x.r.da, .int .i64 x.r.ct, .bool x.r.fi, .int .i64 x.am, .int .i64 x.ev, .int .i64 x.dt, .slice x.ip x.its.length x.ic] 40) ∧ SubA X Y ∧ Dis E' Y := ⟨_, rfl, g4.right _ _ (by simp [Vm.look]), hXn.trans g4.right, g3⟩
      rw [← hY]
      clear hY g0 g3 g4 hr
      have hF' : FdsOk (F'.map Fo.d) := by rw [g2]; exact hrun
      have hC' : FdsC (F'.map Fo.d) := by rw [g2]; exact rc1
      have hK : Keep (F.map Fo.d) (F'.map Fo.d) := by rw [g2]; exact rc2
      have hX3 : x.kd % 3 = 2 → 0 ≤ x.dt → x.dt ≤ 99999 → ∀ g ∈ F'.map Fo.d, g.c.st < 4 → x.dt ≤ g.c.du := by rw [g2]; exact rc3
      have hl1 := hF'.2.1
      have hl2 := hK.1
      simp only [List.length_map] at hl1 hl2
      clear g2 hrun rc1 rc2 rc3
      intro ν fr; have nuE := fr.nu
      simp (maxDischargeDepth := 16) only [argE_nil, argE_cons, ↓vmD, vmV, vmStd, Nat.reduceMul, ↓reduceIte, Nat.reduceAdd, Nat.reduceSub, Nat.reduceEqDiff, Nat.reduceLT, Nat.reduceLeDiff, reduceCtorEq, Int.reduceToNat, Int.reduceLT, Int.reduceLE, Int.reduceEq, Int.reduceNeg, Int.reduceBEq, Int.reduceBNe, String.reduceEq, forall_const, ↓vmDA, vmVA, ↓vmQA, vmR, vmRA, ↓vmSA, vmSV, tyS, nuE, SubA.skip, SubA.refl, fr.2, slIndexByte_v, indexByte_v, indexRune_v, containsRune_v, classOf_v, isWordByte_v, wordAt_v, isName_v, possible_v, days_v, due_v, evName_v, evCheck_v, dNext_v, rNext_v, dTurn_v, rTurn_v, recId_v, moneyCur_v, inTotal_v, exCard_v, recCheck_v, dspId_v, awk46_v]
      clear nuE fr
      refine CallA.newX (casesD_h E' db _ R F' g1 hl1) (SubA.left E' Y) ?_
      rintro v C ho hdC
      obtain ⟨np, ncap, rfl, hnc, hns⟩ := ho.read caC_len
      simp only [List.length_map]
      refine ⟨C ++ (E' ++ Y), SubA.refl _, ?_⟩
      have lt1 : ((F'.length : Int) < (F.length : Int)) = False := eq_false (by omega)
      have lt2 : ((64 : Int) < (F'.length : Int)) = False := eq_false (by omega)
      intro ν fr; have nuE := fr.nu
      simp (maxDischargeDepth := 16) only [argE_nil, argE_cons, ↓vmD, vmV, vmStd, Nat.reduceMul, ↓reduceIte, Nat.reduceAdd, Nat.reduceSub, Nat.reduceEqDiff, Nat.reduceLT, Nat.reduceLeDiff, reduceCtorEq, Int.reduceToNat, Int.reduceLT, Int.reduceLE, Int.reduceEq, Int.reduceNeg, Int.reduceBEq, Int.reduceBNe, String.reduceEq, forall_const, ↓vmDA, vmVA, ↓vmQA, vmR, vmRA, ↓vmSA, vmSV, tyS, nuE, SubA.skip, SubA.refl, fr.2, slIndexByte_v, indexByte_v, indexRune_v, containsRune_v, classOf_v, isWordByte_v, wordAt_v, isName_v, possible_v, days_v, due_v, evName_v, evCheck_v, dNext_v, rNext_v, dTurn_v, rTurn_v, recId_v, moneyCur_v, inTotal_v, exCard_v, recCheck_v, dspId_v, awk46_v, lt1, lt2]
      clear nuE fr
      have hCE : Dis C E' := Dis.subr hdC (SubA.left E' Y)
      have hCY : Dis C Y := Dis.subr hdC hEY.right
      have hEZ : SubA E' (C ++ (E' ++ Y)) := (SubA.left E' Y).trans hdC.right
      have hYZ : SubA Y (C ++ (E' ++ Y)) := hEY.right.trans hdC.right
      have hnZ : Vm.look (C ++ (E' ++ Y)) n0 = some (Obj.cells #[.int .u8 (x.kd : Int), .string (bs x.id), .string (bs x.code), .int .i64 x.r.kd, .string (bs x.r.id), .string (bs x.r.au), .string (bs x.r.aq), .string (bs x.r.is), .string (bs x.r.me), .string (bs x.r.ca), .int .i64 x.r.am, .string (bs x.r.cu), .int .i64 x.r.da, .int .i64 x.r.ct, .bool x.r.fi, .int .i64 x.am, .int .i64 x.ev, .int .i64 x.dt, .slice x.ip x.its.length x.ic] 40) := hYZ _ _ hYn
      have hns' : StR caC 10 (C ++ (E' ++ Y)) np (F'.map fun f => f.d.c) := hns.mono (SubA.left _ _)
      have hws' : StR caC 10 (C ++ (E' ++ Y)) wp (F.map fun f => f.d.c) := hw.mono (hXY.trans hYZ)
      have hfin : SubA (E' ++ (C ++ X)) (C ++ (E' ++ Y)) := SubA.both hEZ (SubA.both (SubA.left _ _) (hXY.trans hYZ))
      have hEX' : Dis E' (C ++ X) := Dis.appr hCE.symm (Dis.subr hEY hXY)
      have hAX' : SubA A (C ++ X) := hAX.trans (Dis.subr hCY hXY).right
      have hw' : StR caC 10 (C ++ X) np (F'.map fun f => f.d.c) := hns.mono (SubA.left _ _)
      have hh100 : ∀ f ∈ F', f.d.h.length ≤ 100 := fun f hf => by have := (hC' f.d (List.mem_map_of_mem hf)).1.2.1; omega
      generalize hZ : C ++ (E' ++ Y) = Z at hEZ hYZ hnZ hns' hws' hfin ⊢
      clear hZ hYZ hEY hYn hXY hdC hCY hCE
      obtain ⟨k, m, hk, hm⟩ : ∃ k m : Nat, k = 0 ∧ F'.length = k + m := ⟨0, F'.length, rfl, by omega⟩
      rw [show (11, some (Value.int .i64 0)) = (11, some (Value.int .i64 (k : Int))) by rw [hk]; rfl]
      clear hk
      induction m generalizing k with
      | zero =>
        have lk : ((k : Int) < (F'.length : Int)) = False := eq_false (by omega)
        refine LoopA.intro (by kernel_rfl) ?_
        intro ν fr; have nuE := fr.nu
        simp (maxDischargeDepth := 16) only [argE_nil, argE_cons, ↓vmD, vmV, vmStd, Nat.reduceMul, ↓reduceIte, Nat.reduceAdd, Nat.reduceSub, Nat.reduceEqDiff, Nat.reduceLT, Nat.reduceLeDiff, reduceCtorEq, Int.reduceToNat, Int.reduceLT, Int.reduceLE, Int.reduceEq, Int.reduceNeg, Int.reduceBEq, Int.reduceBNe, String.reduceEq, forall_const, ↓vmDA, vmVA, ↓vmQA, vmR, vmRA, ↓vmSA, vmSV, tyS, nuE, SubA.skip, SubA.refl, fr.2, slIndexByte_v, indexByte_v, indexRune_v, containsRune_v, classOf_v, isWordByte_v, wordAt_v, isName_v, possible_v, days_v, due_v, evName_v, evCheck_v, dNext_v, rNext_v, dTurn_v, rTurn_v, recId_v, moneyCur_v, inTotal_v, exCard_v, recCheck_v, dspId_v, awk46_v, lk, we]
        refine LoopA.at (A := E' ++ (C ++ X)) hfin ?_
        exact LoopA.weak (ih (e := e + 1) (E := E') (fv := _) (F := F') (X := C ++ X) (wp := np) (wcap := ncap) hd' (by omega) g1 hF' hC' hEX' hAX' hw') (by simp only [subE, get_cons, Nat.reduceEqDiff, ↓reduceIte, reduceCtorEq, Nat.reduceAdd, and_self, and_true]) (SubA.refl _)
      | succ m ihk =>
        have lk : ((k : Int) < (F'.length : Int)) = True := eq_true (by omega)
        have lk0 : ((k : Int) < 0) = False := eq_false (by omega)
        have wk : IntKind.i64.wrap ((k : Int) + 1) = ((k + 1 : Nat) : Int) := by rw [w_i64 (by omega) (by omega)]; omega
        obtain ⟨f, hf⟩ : ∃ f, F'[k]? = some f := ⟨_, List.getElem?_eq_getElem (by omega)⟩
        have hfc : (F'.map fun f => f.d.c)[k]? = some f.d.c := by rw [List.getElem?_map, hf]; rfl
        have hff : (F'.map Fo.d)[k]? = some f.d := by rw [List.getElem?_map, hf]; rfl
        have hfm := List.mem_of_getElem? hff
        have hh := hist_at hF' hff
        obtain ⟨hch, hdu⟩ := hC' f.d hfm
        obtain ⟨_, a2, a3, _⟩ := hF'.1 f.d hfm
        obtain ⟨nb, noff, ncs, nty, nfr, hnp, hnb, hncr, hncc⟩ := hns'.at hfc
        simp only [caC] at hncr
        have hnp' := hnp
        subst hnp
        refine LoopA.intro (by kernel_rfl) ?_
        intro ν fr; have nuE := fr.nu
        have f0 := fr.2 0
        simp (maxDischargeDepth := 16) only [argE_nil, argE_cons, ↓vmD, vmV, vmStd, Nat.reduceMul, ↓reduceIte, Nat.reduceAdd, Nat.reduceSub, Nat.reduceEqDiff, Nat.reduceLT, Nat.reduceLeDiff, reduceCtorEq, Int.reduceToNat, Int.reduceLT, Int.reduceLE, Int.reduceEq, Int.reduceNeg, Int.reduceBEq, Int.reduceBNe, String.reduceEq, forall_const, ↓vmDA, vmVA, ↓vmQA, vmR, vmRA, ↓vmSA, vmSV, tyS, nuE, SubA.skip, SubA.refl, fr.2, slIndexByte_v, indexByte_v, indexRune_v, containsRune_v, classOf_v, isWordByte_v, wordAt_v, isName_v, possible_v, days_v, due_v, evName_v, evCheck_v, dNext_v, rNext_v, dTurn_v, rTurn_v, recId_v, moneyCur_v, inTotal_v, exCard_v, recCheck_v, dspId_v, awk46_v, lk, lk0, hnb, hncr]
        have dst_ : True := (by simp [nuE]); generalize ν 0 = kb at dst_  f0 ⊢
        clear nuE fr dst_
        refine CallA.newX (histD_h E' db _ R F' g1 hh100 f.d.c.id) (SubA.fresh f0 hEZ) ?_
        rintro v H ho hdH
        rw [hh] at ho
        obtain ⟨hp, hcap, rfl, hhc, hhs⟩ := ho.read intC_len
        refine ⟨H ++ ((kb, (Obj.cells #[.string (bs f.d.c.id), .string (bs f.d.c.rcd), .string (bs f.d.c.rea), .string (bs f.d.c.iss), .string (bs f.d.c.acq), .int .i64 f.d.c.amt, .string (bs f.d.c.cur), .int .i64 f.d.c.st, .int .i64 f.d.c.op, .int .i64 f.d.c.du] 48)) :: Z), SubA.refl _, ?_⟩
        obtain ⟨c1, c2, c3, c4, c5⟩ := hch
        have hch : ChainH f.d.h f.d.c.st := ⟨c1, c2, c3, c4, c5⟩
        have hZH : SubA Z (H ++ ((kb, (Obj.cells #[.string (bs f.d.c.id), .string (bs f.d.c.rcd), .string (bs f.d.c.rea), .string (bs f.d.c.iss), .string (bs f.d.c.acq), .int .i64 f.d.c.amt, .string (bs f.d.c.cur), .int .i64 f.d.c.st, .int .i64 f.d.c.op, .int .i64 f.d.c.du] 48)) :: Z)) := (SubA.skip f0 (SubA.refl Z)).trans hdH.right
        have hxb : Vm.look (H ++ ((kb, (Obj.cells #[.string (bs f.d.c.id), .string (bs f.d.c.rcd), .string (bs f.d.c.rea), .string (bs f.d.c.iss), .string (bs f.d.c.acq), .int .i64 f.d.c.amt, .string (bs f.d.c.cur), .int .i64 f.d.c.st, .int .i64 f.d.c.op, .int .i64 f.d.c.du] 48)) :: Z)) kb = some (Obj.cells #[.string (bs f.d.c.id), .string (bs f.d.c.rcd), .string (bs f.d.c.rea), .string (bs f.d.c.iss), .string (bs f.d.c.acq), .int .i64 f.d.c.amt, .string (bs f.d.c.cur), .int .i64 f.d.c.st, .int .i64 f.d.c.op, .int .i64 f.d.c.du] 48) := hdH.right _ _ (by simp [Vm.look])
        have hhs2 : StR intC 1 (H ++ ((kb, (Obj.cells #[.string (bs f.d.c.id), .string (bs f.d.c.rcd), .string (bs f.d.c.rea), .string (bs f.d.c.iss), .string (bs f.d.c.acq), .int .i64 f.d.c.amt, .string (bs f.d.c.cur), .int .i64 f.d.c.st, .int .i64 f.d.c.op, .int .i64 f.d.c.du] 48)) :: Z)) hp f.d.h := hhs.mono (SubA.left _ _)
        have hnb2 := hZH _ _ hnb
        have hnn2 := hZH _ _ hnZ
        have fv1 := folP_w _ f.d.h f.d.c.st hp hcap hhs2 hch _ (SubA.refl _)
        obtain ⟨sb, soff, scs, sty, sfr, hsp, hsb, hscr, hscc⟩ := hhs2.at c4
        have hs0 : scs[soff + (f.d.h.length - 1) * 1]? = some (.int .i64 f.d.c.st) := hscc 0 _ rfl
        have hsp' := hsp
        subst hsp
        have wl : IntKind.i64.wrap ((f.d.h.length : Int) - 1) = ((f.d.h.length - 1 : Nat) : Int) := by rw [w_i64 (by omega) (by omega)]; omega
        have wl0 : (((f.d.h.length - 1 : Nat) : Int) < 0) = False := eq_false (by omega)
        have wl1 : (((f.d.h.length - 1 : Nat) : Int) < (f.d.h.length : Int)) = True := eq_true (by omega)
        have du0 : (f.d.c.du < 0) = False := eq_false (by omega)
        generalize H ++ ((kb, (Obj.cells #[.string (bs f.d.c.id), .string (bs f.d.c.rcd), .string (bs f.d.c.rea), .string (bs f.d.c.iss), .string (bs f.d.c.acq), .int .i64 f.d.c.amt, .string (bs f.d.c.cur), .int .i64 f.d.c.st, .int .i64 f.d.c.op, .int .i64 f.d.c.du] 48)) :: Z) = Q at hZH hxb hhs2 hnb2 hnn2 fv1 hsb ⊢
        intro ν fr; have nuE := fr.nu
        by_cases hkF : k < F.length
        · have lw : ((k : Int) < (F.length : Int)) = True := eq_true (by omega)
          obtain ⟨g, hg⟩ : ∃ g, F[k]? = some g := ⟨_, List.getElem?_eq_getElem hkF⟩
          have hgc : (F.map fun f => f.d.c)[k]? = some g.d.c := by rw [List.getElem?_map, hg]; rfl
          obtain ⟨wb, woff, wcs, wty, wfr, hwp, hwb, hwcr, hwcc⟩ := (hws'.mono hZH).at hgc
          have hwp' := hwp
          subst hwp
          have w7 : wcs[woff + k * 10 + 7]? = some (.int .i64 g.d.c.st) := hwcc 7 _ rfl
          by_cases h5 : 5 ≤ g.d.c.st
          · have hk2 := hK.2 k g.d (by rw [List.getElem?_map, hg]; rfl) h5
            rw [hff] at hk2
            have efg : f.d = g.d := Option.some.inj hk2
            simp only [caC, ← efg] at hwcr w7 h5
            simp (maxDischargeDepth := 16) only [argE_nil, argE_cons, ↓vmD, vmV, vmStd, Nat.reduceMul, ↓reduceIte, Nat.reduceAdd, Nat.reduceSub, Nat.reduceEqDiff, Nat.reduceLT, Nat.reduceLeDiff, reduceCtorEq, Int.reduceToNat, Int.reduceLT, Int.reduceLE, Int.reduceEq, Int.reduceNeg, Int.reduceBEq, Int.reduceBNe, String.reduceEq, forall_const, ↓vmDA, vmVA, ↓vmQA, vmR, vmRA, ↓vmSA, vmSV, tyS, nuE, SubA.skip, SubA.refl, fr.2, slIndexByte_v, indexByte_v, indexRune_v, containsRune_v, classOf_v, isWordByte_v, wordAt_v, isName_v, possible_v, days_v, due_v, evName_v, evCheck_v, dNext_v, rNext_v, dTurn_v, rTurn_v, recId_v, moneyCur_v, inTotal_v, exCard_v, recCheck_v, dspId_v, awk46_v, fv1, hxb, wl, wl0, wl1, hsb, hs0, du0, lw, lk0, hwb, w7, hwcr, eq_true h5, hnn2, km, kw, h2', wk]
            repeat' split
            all_goals first
              | (exfalso; have hc := hX3 h2 (by assumption) (by assumption) f.d hfm (by assumption); omega)
              | (refine LoopA.at hZH ?_; exact LoopA.weak (ihk (k + 1) (by omega)) (by simp only [subE, get_cons, Nat.reduceEqDiff, ↓reduceIte, reduceCtorEq, Nat.reduceAdd, and_self, and_true]) (SubA.refl _))
          · simp (maxDischargeDepth := 16) only [argE_nil, argE_cons, ↓vmD, vmV, vmStd, Nat.reduceMul, ↓reduceIte, Nat.reduceAdd, Nat.reduceSub, Nat.reduceEqDiff, Nat.reduceLT, Nat.reduceLeDiff, reduceCtorEq, Int.reduceToNat, Int.reduceLT, Int.reduceLE, Int.reduceEq, Int.reduceNeg, Int.reduceBEq, Int.reduceBNe, String.reduceEq, forall_const, ↓vmDA, vmVA, ↓vmQA, vmR, vmRA, ↓vmSA, vmSV, tyS, nuE, SubA.skip, SubA.refl, fr.2, slIndexByte_v, indexByte_v, indexRune_v, containsRune_v, classOf_v, isWordByte_v, wordAt_v, isName_v, possible_v, days_v, due_v, evName_v, evCheck_v, dNext_v, rNext_v, dTurn_v, rTurn_v, recId_v, moneyCur_v, inTotal_v, exCard_v, recCheck_v, dspId_v, awk46_v, fv1, hxb, wl, wl0, wl1, hsb, hs0, du0, lw, lk0, hwb, w7, eq_false h5, hnn2, km, kw, h2', wk]
            repeat' split
            all_goals first
              | (exfalso; have hc := hX3 h2 (by assumption) (by assumption) f.d hfm (by assumption); omega)
              | (refine LoopA.at hZH ?_; exact LoopA.weak (ihk (k + 1) (by omega)) (by simp only [subE, get_cons, Nat.reduceEqDiff, ↓reduceIte, reduceCtorEq, Nat.reduceAdd, and_self, and_true]) (SubA.refl _))
        · have lw : ((k : Int) < (F.length : Int)) = False := eq_false (by omega)
          simp (maxDischargeDepth := 16) only [argE_nil, argE_cons, ↓vmD, vmV, vmStd, Nat.reduceMul, ↓reduceIte, Nat.reduceAdd, Nat.reduceSub, Nat.reduceEqDiff, Nat.reduceLT, Nat.reduceLeDiff, reduceCtorEq, Int.reduceToNat, Int.reduceLT, Int.reduceLE, Int.reduceEq, Int.reduceNeg, Int.reduceBEq, Int.reduceBNe, String.reduceEq, forall_const, ↓vmDA, vmVA, ↓vmQA, vmR, vmRA, ↓vmSA, vmSV, tyS, nuE, SubA.skip, SubA.refl, fr.2, slIndexByte_v, indexByte_v, indexRune_v, containsRune_v, classOf_v, isWordByte_v, wordAt_v, isName_v, possible_v, days_v, due_v, evName_v, evCheck_v, dNext_v, rNext_v, dTurn_v, rTurn_v, recId_v, moneyCur_v, inTotal_v, exCard_v, recCheck_v, dspId_v, awk46_v, fv1, hxb, wl, wl0, wl1, hsb, hs0, du0, lw, hnn2, km, kw, h2', wk]
          repeat' split
          all_goals first
            | (exfalso; have hc := hX3 h2 (by assumption) (by assumption) f.d hfm (by assumption); omega)
            | (refine LoopA.at hZH ?_; exact LoopA.weak (ihk (k + 1) (by omega)) (by simp only [subE, get_cons, Nat.reduceEqDiff, ↓reduceIte, reduceCtorEq, Nat.reduceAdd, and_self, and_true]) (SubA.refl _))
    · have h2' : (((x.kd % 3 : Nat) : Int) = 2) = False := eq_false (by omega)
      simp (maxDischargeDepth := 16) only [argE_nil, argE_cons, ↓vmD, vmV, vmStd, Nat.reduceMul, ↓reduceIte, Nat.reduceAdd, Nat.reduceSub, Nat.reduceEqDiff, Nat.reduceLT, Nat.reduceLeDiff, reduceCtorEq, Int.reduceToNat, Int.reduceLT, Int.reduceLE, Int.reduceEq, Int.reduceNeg, Int.reduceBEq, Int.reduceBNe, String.reduceEq, forall_const, ↓vmDA, vmVA, ↓vmQA, vmR, vmRA, ↓vmSA, vmSV, tyS, nuE, SubA.skip, SubA.refl, fr.2, slIndexByte_v, indexByte_v, indexRune_v, containsRune_v, classOf_v, isWordByte_v, wordAt_v, isName_v, possible_v, days_v, due_v, evName_v, evCheck_v, dNext_v, rNext_v, dTurn_v, rTurn_v, recId_v, moneyCur_v, inTotal_v, exCard_v, recCheck_v, dspId_v, awk46_v, lt, li, hbk2, hcr, km, kw, h2']
      have dst_ : True := (by simp [nuE]); generalize ν 0 = n0 at dst_  f0 ⊢
      clear nuE fr dst_
      have fE : Vm.look E n0 = none := (SubA.left E X).none f0
      refine open_use (callP_h E ((n0, (Obj.cells #[.int .u8 (x.kd : Int), .string (bs x.id), .string (bs x.code), .int .i64 x.r.kd, .string (bs x.r.id), .string (bs x.r.au), .string (bs x.r.aq), .string (bs x.r.is), .string (bs x.r.me), .string (bs x.r.ca), .int .i64 x.r.am, .string (bs x.r.cu), .int .i64 x.r.da, .int .i64 x.r.ct, .bool x.r.fi, .int .i64 x.am, .int .i64 x.ev, .int .i64 x.dt, .slice x.ip x.its.length x.ic] 40)) :: X) db fv R F hE (dis_cons fE hX) hF x hk255 (hI.mono (SubA.trans hAX (SubA.skip (hX.right.none f0) (SubA.refl X))))) (cons_back fE) ?_
      intro E' fv' F' g1 g2 g3
      have hr : runX (R.map Rs.d) (F.map Fo.d) x = (doX (R.map Rs.d) (F.map Fo.d) x).2 := if_neg h2
      rw [← hr] at g2
      have hXn : SubA X ((n0, (Obj.cells #[.int .u8 (x.kd : Int), .string (bs x.id), .string (bs x.code), .int .i64 x.r.kd, .string (bs x.r.id), .string (bs x.r.au), .string (bs x.r.aq), .string (bs x.r.is), .string (bs x.r.me), .string (bs x.r.ca), .int .i64 x.r.am, .string (bs x.r.cu), .int .i64 x.r.da, .int .i64 x.r.ct, .bool x.r.fi, .int .i64 x.am, .int .i64 x.ev, .int .i64 x.dt, .slice x.ip x.its.length x.ic] 40)) :: X) := SubA.skip (hX.right.none f0) (SubA.refl X)
      obtain ⟨Y, hY, hYn, hXY, hEY⟩ : ∃ Y, Y = ((n0, (Obj.cells #[.int .u8 (x.kd : Int), .string (bs x.id), .string (bs x.code), .int .i64 x.r.kd, .string (bs x.r.id), .string (bs x.r.au), .string (bs x.r.aq), .string (bs x.r.is), .string (bs x.r.me), .string (bs x.r.ca), .int .i64 x.r.am, .string (bs x.r.cu), .int .i64 x.r.da, .int .i64 x.r.ct, .bool x.r.fi, .int .i64 x.am, .int .i64 x.ev, .int .i64 x.dt, .slice x.ip x.its.length x.ic] 40)) :: X) ∧ Vm.look Y n0 = some (Obj.cells #[.int .u8 (x.kd : Int), .string (bs x.id), .string (bs x.code), .int .i64 x.r.kd, .string (bs x.r.id), .string (bs x.r.au), .string (bs x.r.aq), .string (bs x.r.is), .string (bs x.r.me), .string (bs x.r.ca), .int .i64 x.r.am, .string (bs x.r.cu), .int .i64 x.r.da, .int .i64 x.r.ct, .bool x.r.fi, .int .i64 x.am, .int .i64 x.ev, .int .i64 x.dt, .slice x.ip x.its.length x.ic] 40) ∧ SubA X Y ∧ Dis E' Y := ⟨_, rfl, by simp [Vm.look], hXn, g3⟩
      rw [← hY]
      clear hY g3 hr
      have hF' : FdsOk (F'.map Fo.d) := by rw [g2]; exact hrun
      have hC' : FdsC (F'.map Fo.d) := by rw [g2]; exact rc1
      have hK : Keep (F.map Fo.d) (F'.map Fo.d) := by rw [g2]; exact rc2
      have hX3 : x.kd % 3 = 2 → 0 ≤ x.dt → x.dt ≤ 99999 → ∀ g ∈ F'.map Fo.d, g.c.st < 4 → x.dt ≤ g.c.du := by rw [g2]; exact rc3
      have hl1 := hF'.2.1
      have hl2 := hK.1
      simp only [List.length_map] at hl1 hl2
      clear g2 hrun rc1 rc2 rc3
      intro ν fr; have nuE := fr.nu
      simp (maxDischargeDepth := 16) only [argE_nil, argE_cons, ↓vmD, vmV, vmStd, Nat.reduceMul, ↓reduceIte, Nat.reduceAdd, Nat.reduceSub, Nat.reduceEqDiff, Nat.reduceLT, Nat.reduceLeDiff, reduceCtorEq, Int.reduceToNat, Int.reduceLT, Int.reduceLE, Int.reduceEq, Int.reduceNeg, Int.reduceBEq, Int.reduceBNe, String.reduceEq, forall_const, ↓vmDA, vmVA, ↓vmQA, vmR, vmRA, ↓vmSA, vmSV, tyS, nuE, SubA.skip, SubA.refl, fr.2, slIndexByte_v, indexByte_v, indexRune_v, containsRune_v, classOf_v, isWordByte_v, wordAt_v, isName_v, possible_v, days_v, due_v, evName_v, evCheck_v, dNext_v, rNext_v, dTurn_v, rTurn_v, recId_v, moneyCur_v, inTotal_v, exCard_v, recCheck_v, dspId_v, awk46_v]
      clear nuE fr
      refine CallA.newX (casesD_h E' db _ R F' g1 hl1) (SubA.left E' Y) ?_
      rintro v C ho hdC
      obtain ⟨np, ncap, rfl, hnc, hns⟩ := ho.read caC_len
      simp only [List.length_map]
      refine ⟨C ++ (E' ++ Y), SubA.refl _, ?_⟩
      have lt1 : ((F'.length : Int) < (F.length : Int)) = False := eq_false (by omega)
      have lt2 : ((64 : Int) < (F'.length : Int)) = False := eq_false (by omega)
      intro ν fr; have nuE := fr.nu
      simp (maxDischargeDepth := 16) only [argE_nil, argE_cons, ↓vmD, vmV, vmStd, Nat.reduceMul, ↓reduceIte, Nat.reduceAdd, Nat.reduceSub, Nat.reduceEqDiff, Nat.reduceLT, Nat.reduceLeDiff, reduceCtorEq, Int.reduceToNat, Int.reduceLT, Int.reduceLE, Int.reduceEq, Int.reduceNeg, Int.reduceBEq, Int.reduceBNe, String.reduceEq, forall_const, ↓vmDA, vmVA, ↓vmQA, vmR, vmRA, ↓vmSA, vmSV, tyS, nuE, SubA.skip, SubA.refl, fr.2, slIndexByte_v, indexByte_v, indexRune_v, containsRune_v, classOf_v, isWordByte_v, wordAt_v, isName_v, possible_v, days_v, due_v, evName_v, evCheck_v, dNext_v, rNext_v, dTurn_v, rTurn_v, recId_v, moneyCur_v, inTotal_v, exCard_v, recCheck_v, dspId_v, awk46_v, lt1, lt2]
      clear nuE fr
      have hCE : Dis C E' := Dis.subr hdC (SubA.left E' Y)
      have hCY : Dis C Y := Dis.subr hdC hEY.right
      have hEZ : SubA E' (C ++ (E' ++ Y)) := (SubA.left E' Y).trans hdC.right
      have hYZ : SubA Y (C ++ (E' ++ Y)) := hEY.right.trans hdC.right
      have hnZ : Vm.look (C ++ (E' ++ Y)) n0 = some (Obj.cells #[.int .u8 (x.kd : Int), .string (bs x.id), .string (bs x.code), .int .i64 x.r.kd, .string (bs x.r.id), .string (bs x.r.au), .string (bs x.r.aq), .string (bs x.r.is), .string (bs x.r.me), .string (bs x.r.ca), .int .i64 x.r.am, .string (bs x.r.cu), .int .i64 x.r.da, .int .i64 x.r.ct, .bool x.r.fi, .int .i64 x.am, .int .i64 x.ev, .int .i64 x.dt, .slice x.ip x.its.length x.ic] 40) := hYZ _ _ hYn
      have hns' : StR caC 10 (C ++ (E' ++ Y)) np (F'.map fun f => f.d.c) := hns.mono (SubA.left _ _)
      have hws' : StR caC 10 (C ++ (E' ++ Y)) wp (F.map fun f => f.d.c) := hw.mono (hXY.trans hYZ)
      have hfin : SubA (E' ++ (C ++ X)) (C ++ (E' ++ Y)) := SubA.both hEZ (SubA.both (SubA.left _ _) (hXY.trans hYZ))
      have hEX' : Dis E' (C ++ X) := Dis.appr hCE.symm (Dis.subr hEY hXY)
      have hAX' : SubA A (C ++ X) := hAX.trans (Dis.subr hCY hXY).right
      have hw' : StR caC 10 (C ++ X) np (F'.map fun f => f.d.c) := hns.mono (SubA.left _ _)
      have hh100 : ∀ f ∈ F', f.d.h.length ≤ 100 := fun f hf => by have := (hC' f.d (List.mem_map_of_mem hf)).1.2.1; omega
      generalize hZ : C ++ (E' ++ Y) = Z at hEZ hYZ hnZ hns' hws' hfin ⊢
      clear hZ hYZ hEY hYn hXY hdC hCY hCE
      obtain ⟨k, m, hk, hm⟩ : ∃ k m : Nat, k = 0 ∧ F'.length = k + m := ⟨0, F'.length, rfl, by omega⟩
      rw [show (11, some (Value.int .i64 0)) = (11, some (Value.int .i64 (k : Int))) by rw [hk]; rfl]
      clear hk
      induction m generalizing k with
      | zero =>
        have lk : ((k : Int) < (F'.length : Int)) = False := eq_false (by omega)
        refine LoopA.intro (by kernel_rfl) ?_
        intro ν fr; have nuE := fr.nu
        simp (maxDischargeDepth := 16) only [argE_nil, argE_cons, ↓vmD, vmV, vmStd, Nat.reduceMul, ↓reduceIte, Nat.reduceAdd, Nat.reduceSub, Nat.reduceEqDiff, Nat.reduceLT, Nat.reduceLeDiff, reduceCtorEq, Int.reduceToNat, Int.reduceLT, Int.reduceLE, Int.reduceEq, Int.reduceNeg, Int.reduceBEq, Int.reduceBNe, String.reduceEq, forall_const, ↓vmDA, vmVA, ↓vmQA, vmR, vmRA, ↓vmSA, vmSV, tyS, nuE, SubA.skip, SubA.refl, fr.2, slIndexByte_v, indexByte_v, indexRune_v, containsRune_v, classOf_v, isWordByte_v, wordAt_v, isName_v, possible_v, days_v, due_v, evName_v, evCheck_v, dNext_v, rNext_v, dTurn_v, rTurn_v, recId_v, moneyCur_v, inTotal_v, exCard_v, recCheck_v, dspId_v, awk46_v, lk, we]
        refine LoopA.at (A := E' ++ (C ++ X)) hfin ?_
        exact LoopA.weak (ih (e := e + 1) (E := E') (fv := _) (F := F') (X := C ++ X) (wp := np) (wcap := ncap) hd' (by omega) g1 hF' hC' hEX' hAX' hw') (by simp only [subE, get_cons, Nat.reduceEqDiff, ↓reduceIte, reduceCtorEq, Nat.reduceAdd, and_self, and_true]) (SubA.refl _)
      | succ m ihk =>
        have lk : ((k : Int) < (F'.length : Int)) = True := eq_true (by omega)
        have lk0 : ((k : Int) < 0) = False := eq_false (by omega)
        have wk : IntKind.i64.wrap ((k : Int) + 1) = ((k + 1 : Nat) : Int) := by rw [w_i64 (by omega) (by omega)]; omega
        obtain ⟨f, hf⟩ : ∃ f, F'[k]? = some f := ⟨_, List.getElem?_eq_getElem (by omega)⟩
        have hfc : (F'.map fun f => f.d.c)[k]? = some f.d.c := by rw [List.getElem?_map, hf]; rfl
        have hff : (F'.map Fo.d)[k]? = some f.d := by rw [List.getElem?_map, hf]; rfl
        have hfm := List.mem_of_getElem? hff
        have hh := hist_at hF' hff
        obtain ⟨hch, hdu⟩ := hC' f.d hfm
        obtain ⟨_, a2, a3, _⟩ := hF'.1 f.d hfm
        obtain ⟨nb, noff, ncs, nty, nfr, hnp, hnb, hncr, hncc⟩ := hns'.at hfc
        simp only [caC] at hncr
        have hnp' := hnp
        subst hnp
        refine LoopA.intro (by kernel_rfl) ?_
        intro ν fr; have nuE := fr.nu
        have f0 := fr.2 0
        simp (maxDischargeDepth := 16) only [argE_nil, argE_cons, ↓vmD, vmV, vmStd, Nat.reduceMul, ↓reduceIte, Nat.reduceAdd, Nat.reduceSub, Nat.reduceEqDiff, Nat.reduceLT, Nat.reduceLeDiff, reduceCtorEq, Int.reduceToNat, Int.reduceLT, Int.reduceLE, Int.reduceEq, Int.reduceNeg, Int.reduceBEq, Int.reduceBNe, String.reduceEq, forall_const, ↓vmDA, vmVA, ↓vmQA, vmR, vmRA, ↓vmSA, vmSV, tyS, nuE, SubA.skip, SubA.refl, fr.2, slIndexByte_v, indexByte_v, indexRune_v, containsRune_v, classOf_v, isWordByte_v, wordAt_v, isName_v, possible_v, days_v, due_v, evName_v, evCheck_v, dNext_v, rNext_v, dTurn_v, rTurn_v, recId_v, moneyCur_v, inTotal_v, exCard_v, recCheck_v, dspId_v, awk46_v, lk, lk0, hnb, hncr]
        have dst_ : True := (by simp [nuE]); generalize ν 0 = kb at dst_  f0 ⊢
        clear nuE fr dst_
        refine CallA.newX (histD_h E' db _ R F' g1 hh100 f.d.c.id) (SubA.fresh f0 hEZ) ?_
        rintro v H ho hdH
        rw [hh] at ho
        obtain ⟨hp, hcap, rfl, hhc, hhs⟩ := ho.read intC_len
        refine ⟨H ++ ((kb, (Obj.cells #[.string (bs f.d.c.id), .string (bs f.d.c.rcd), .string (bs f.d.c.rea), .string (bs f.d.c.iss), .string (bs f.d.c.acq), .int .i64 f.d.c.amt, .string (bs f.d.c.cur), .int .i64 f.d.c.st, .int .i64 f.d.c.op, .int .i64 f.d.c.du] 48)) :: Z), SubA.refl _, ?_⟩
        obtain ⟨c1, c2, c3, c4, c5⟩ := hch
        have hch : ChainH f.d.h f.d.c.st := ⟨c1, c2, c3, c4, c5⟩
        have hZH : SubA Z (H ++ ((kb, (Obj.cells #[.string (bs f.d.c.id), .string (bs f.d.c.rcd), .string (bs f.d.c.rea), .string (bs f.d.c.iss), .string (bs f.d.c.acq), .int .i64 f.d.c.amt, .string (bs f.d.c.cur), .int .i64 f.d.c.st, .int .i64 f.d.c.op, .int .i64 f.d.c.du] 48)) :: Z)) := (SubA.skip f0 (SubA.refl Z)).trans hdH.right
        have hxb : Vm.look (H ++ ((kb, (Obj.cells #[.string (bs f.d.c.id), .string (bs f.d.c.rcd), .string (bs f.d.c.rea), .string (bs f.d.c.iss), .string (bs f.d.c.acq), .int .i64 f.d.c.amt, .string (bs f.d.c.cur), .int .i64 f.d.c.st, .int .i64 f.d.c.op, .int .i64 f.d.c.du] 48)) :: Z)) kb = some (Obj.cells #[.string (bs f.d.c.id), .string (bs f.d.c.rcd), .string (bs f.d.c.rea), .string (bs f.d.c.iss), .string (bs f.d.c.acq), .int .i64 f.d.c.amt, .string (bs f.d.c.cur), .int .i64 f.d.c.st, .int .i64 f.d.c.op, .int .i64 f.d.c.du] 48) := hdH.right _ _ (by simp [Vm.look])
        have hhs2 : StR intC 1 (H ++ ((kb, (Obj.cells #[.string (bs f.d.c.id), .string (bs f.d.c.rcd), .string (bs f.d.c.rea), .string (bs f.d.c.iss), .string (bs f.d.c.acq), .int .i64 f.d.c.amt, .string (bs f.d.c.cur), .int .i64 f.d.c.st, .int .i64 f.d.c.op, .int .i64 f.d.c.du] 48)) :: Z)) hp f.d.h := hhs.mono (SubA.left _ _)
        have hnb2 := hZH _ _ hnb
        have hnn2 := hZH _ _ hnZ
        have fv1 := folP_w _ f.d.h f.d.c.st hp hcap hhs2 hch _ (SubA.refl _)
        obtain ⟨sb, soff, scs, sty, sfr, hsp, hsb, hscr, hscc⟩ := hhs2.at c4
        have hs0 : scs[soff + (f.d.h.length - 1) * 1]? = some (.int .i64 f.d.c.st) := hscc 0 _ rfl
        have hsp' := hsp
        subst hsp
        have wl : IntKind.i64.wrap ((f.d.h.length : Int) - 1) = ((f.d.h.length - 1 : Nat) : Int) := by rw [w_i64 (by omega) (by omega)]; omega
        have wl0 : (((f.d.h.length - 1 : Nat) : Int) < 0) = False := eq_false (by omega)
        have wl1 : (((f.d.h.length - 1 : Nat) : Int) < (f.d.h.length : Int)) = True := eq_true (by omega)
        have du0 : (f.d.c.du < 0) = False := eq_false (by omega)
        generalize H ++ ((kb, (Obj.cells #[.string (bs f.d.c.id), .string (bs f.d.c.rcd), .string (bs f.d.c.rea), .string (bs f.d.c.iss), .string (bs f.d.c.acq), .int .i64 f.d.c.amt, .string (bs f.d.c.cur), .int .i64 f.d.c.st, .int .i64 f.d.c.op, .int .i64 f.d.c.du] 48)) :: Z) = Q at hZH hxb hhs2 hnb2 hnn2 fv1 hsb ⊢
        intro ν fr; have nuE := fr.nu
        by_cases hkF : k < F.length
        · have lw : ((k : Int) < (F.length : Int)) = True := eq_true (by omega)
          obtain ⟨g, hg⟩ : ∃ g, F[k]? = some g := ⟨_, List.getElem?_eq_getElem hkF⟩
          have hgc : (F.map fun f => f.d.c)[k]? = some g.d.c := by rw [List.getElem?_map, hg]; rfl
          obtain ⟨wb, woff, wcs, wty, wfr, hwp, hwb, hwcr, hwcc⟩ := (hws'.mono hZH).at hgc
          have hwp' := hwp
          subst hwp
          have w7 : wcs[woff + k * 10 + 7]? = some (.int .i64 g.d.c.st) := hwcc 7 _ rfl
          by_cases h5 : 5 ≤ g.d.c.st
          · have hk2 := hK.2 k g.d (by rw [List.getElem?_map, hg]; rfl) h5
            rw [hff] at hk2
            have efg : f.d = g.d := Option.some.inj hk2
            simp only [caC, ← efg] at hwcr w7 h5
            simp (maxDischargeDepth := 16) only [argE_nil, argE_cons, ↓vmD, vmV, vmStd, Nat.reduceMul, ↓reduceIte, Nat.reduceAdd, Nat.reduceSub, Nat.reduceEqDiff, Nat.reduceLT, Nat.reduceLeDiff, reduceCtorEq, Int.reduceToNat, Int.reduceLT, Int.reduceLE, Int.reduceEq, Int.reduceNeg, Int.reduceBEq, Int.reduceBNe, String.reduceEq, forall_const, ↓vmDA, vmVA, ↓vmQA, vmR, vmRA, ↓vmSA, vmSV, tyS, nuE, SubA.skip, SubA.refl, fr.2, slIndexByte_v, indexByte_v, indexRune_v, containsRune_v, classOf_v, isWordByte_v, wordAt_v, isName_v, possible_v, days_v, due_v, evName_v, evCheck_v, dNext_v, rNext_v, dTurn_v, rTurn_v, recId_v, moneyCur_v, inTotal_v, exCard_v, recCheck_v, dspId_v, awk46_v, fv1, hxb, wl, wl0, wl1, hsb, hs0, du0, lw, lk0, hwb, w7, hwcr, eq_true h5, hnn2, km, kw, h2', wk]
            refine LoopA.at hZH ?_
            exact LoopA.weak (ihk (k + 1) (by omega)) (by simp only [subE, get_cons, Nat.reduceEqDiff, ↓reduceIte, reduceCtorEq, Nat.reduceAdd, and_self, and_true]) (SubA.refl _)
          · simp (maxDischargeDepth := 16) only [argE_nil, argE_cons, ↓vmD, vmV, vmStd, Nat.reduceMul, ↓reduceIte, Nat.reduceAdd, Nat.reduceSub, Nat.reduceEqDiff, Nat.reduceLT, Nat.reduceLeDiff, reduceCtorEq, Int.reduceToNat, Int.reduceLT, Int.reduceLE, Int.reduceEq, Int.reduceNeg, Int.reduceBEq, Int.reduceBNe, String.reduceEq, forall_const, ↓vmDA, vmVA, ↓vmQA, vmR, vmRA, ↓vmSA, vmSV, tyS, nuE, SubA.skip, SubA.refl, fr.2, slIndexByte_v, indexByte_v, indexRune_v, containsRune_v, classOf_v, isWordByte_v, wordAt_v, isName_v, possible_v, days_v, due_v, evName_v, evCheck_v, dNext_v, rNext_v, dTurn_v, rTurn_v, recId_v, moneyCur_v, inTotal_v, exCard_v, recCheck_v, dspId_v, awk46_v, fv1, hxb, wl, wl0, wl1, hsb, hs0, du0, lw, lk0, hwb, w7, eq_false h5, hnn2, km, kw, h2', wk]
            refine LoopA.at hZH ?_
            exact LoopA.weak (ihk (k + 1) (by omega)) (by simp only [subE, get_cons, Nat.reduceEqDiff, ↓reduceIte, reduceCtorEq, Nat.reduceAdd, and_self, and_true]) (SubA.refl _)
        · have lw : ((k : Int) < (F.length : Int)) = False := eq_false (by omega)
          simp (maxDischargeDepth := 16) only [argE_nil, argE_cons, ↓vmD, vmV, vmStd, Nat.reduceMul, ↓reduceIte, Nat.reduceAdd, Nat.reduceSub, Nat.reduceEqDiff, Nat.reduceLT, Nat.reduceLeDiff, reduceCtorEq, Int.reduceToNat, Int.reduceLT, Int.reduceLE, Int.reduceEq, Int.reduceNeg, Int.reduceBEq, Int.reduceBNe, String.reduceEq, forall_const, ↓vmDA, vmVA, ↓vmQA, vmR, vmRA, ↓vmSA, vmSV, tyS, nuE, SubA.skip, SubA.refl, fr.2, slIndexByte_v, indexByte_v, indexRune_v, containsRune_v, classOf_v, isWordByte_v, wordAt_v, isName_v, possible_v, days_v, due_v, evName_v, evCheck_v, dNext_v, rNext_v, dTurn_v, rTurn_v, recId_v, moneyCur_v, inTotal_v, exCard_v, recCheck_v, dspId_v, awk46_v, fv1, hxb, wl, wl0, wl1, hsb, hs0, du0, lw, hnn2, km, kw, h2', wk]
          refine LoopA.at hZH ?_
          exact LoopA.weak (ihk (k + 1) (by omega)) (by simp only [subE, get_cons, Nat.reduceEqDiff, ↓reduceIte, reduceCtorEq, Nat.reduceAdd, and_self, and_true]) (SubA.refl _)
theorem endsLaw_w (A : AH) (L : List Rs) (p : Option Addr) (cap : Nat) (hL : RsR A p L) (hl : L.length ≤ cap ∧ cap ≤ 9223372036854775807) (M : List DoT) (q : Option Addr) (qcap : Nat) (hM : DoR A q M) (B_ : AH) (hB_ : SubA A B_) : valA Try.prog 5 #[.slice p L.length cap, .slice q M.length qcap] B_ = some (.bool true) := valA_eq (pureA_at (by kernel_rfl) (endsLaw_h A L p cap hL hl M q qcap hM) hB_)
theorem endsLaw_v (A : AH) (L : List Rs) (p : Option Addr) (cap : Nat) (hL : RsR A p L) (hl : L.length ≤ cap ∧ cap ≤ 9223372036854775807) (M : List DoT) (q : Option Addr) (qcap : Nat) (hM : DoR A q M) : valA Try.prog 5 #[.slice p L.length cap, .slice q M.length qcap] A = some (.bool true) := valA_eq (pureA_at (by kernel_rfl) (endsLaw_h A L p cap hL hl M q qcap hM) (SubA.refl _))
end Go.Proofs.Ytkkpmcomloekoaa
