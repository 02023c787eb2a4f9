/-
MatchingRuns: the walk.
Conditions: none.
-/
import Derived.Test.YthahheeahdhepaaRun
namespace Go.Proofs.Ythahheeahdhepaa
open Go.Vm
set_option linter.unusedSimpArgs false
set_option linter.unusedVariables false
set_option maxHeartbeats 4000000
set_option maxRecDepth 20000
def okAu (a : Au) : Bool := shA a.id a.cu
def okRc (r : Rc) : Bool := shR r.rid r.rau r.aq r.is r.me r.ca r.rcu
def smallB (L : List Au) (rs : List Rc) : Bool := decide (L.length ≤ 30) && (decide (rs.length ≤ 40) && (L.all okAu && rs.all okRc))
theorem all_cons {α : Type} (f : α → Bool) (L : List α) {e : Nat} {a : α} {l : List α} (h : a :: l = L.drop e) : (L.drop e).all f = (f a && (L.drop (e + 1)).all f) := by
  obtain ⟨_, _, h3⟩ := drop_some h
  rw [← h3, ← h, List.all_cons]
theorem small_h (A : AH) (L : List Au) (p : Option Addr) (cap : Nat) (rs : List Rc) (q : Option Addr) (cq : Nat) (hL : StR Au.cells 10 A p L) (hR : StR Rc.cells 12 A q rs) : CallA Try.prog 18 #[.slice p L.length cap, .slice q rs.length cq] A (fun u_ A_ => u_ = .bool (smallB L rs) ∧ SubA A A_) := by
  refine callA_of_denA ⟨Try.prog, 18, Try.f18, 39, [0, 1, 4, 5, 6], [], [], _⟩ (args := [_, _]) Try.func18 rfl (by kernel_rfl) Try.ntmps18 (by simp) (by kernel_rfl) ?_
  intro ν fr; have nuE := fr.nu
  by_cases c1 : L.length ≤ 30
  · by_cases c2 : rs.length ≤ 40
    · have d1 : ((30 : Int) < (L.length : Int)) = False := by simp; omega
      have d2 : ((40 : Int) < (rs.length : Int)) = False := by simp; omega
      simp (maxDischargeDepth := 16) only [argE_nil, argE_cons, ↓vmD, vmV, vmStd, Nat.reduceMul, ↓reduceIte, Nat.reduceAdd, Nat.reduceSub, Nat.reduceEqDiff, Nat.reduceLT, Nat.reduceLeDiff, reduceCtorEq, Int.reduceToNat, Int.reduceLT, Int.reduceLE, Int.reduceEq, Int.reduceNeg, Int.reduceBEq, Int.reduceBNe, String.reduceEq, forall_const, ↓vmDA, vmVA, ↓vmQA, vmR, vmRA, ↓vmSA, vmSV, tyS, nuE, SubA.skip, SubA.refl, fr.2, slIndexByte_v, indexByte_v, indexRune_v, containsRune_v, classOf_v, isWordByte_v, letter_v, digit_v, wordAt_v, rword_v, isName_v, risName_v, recId_v, authId_v, rId13_v, rId27_v, moneyCur_v, authCur_v, rCur27_v, rCur01_v, isPart_v, authCheck_v, inTotal_v, rwithin1_v, exCard_v, recCheck_v, rrecCheck_v, within27_v, rauthCheck_v, fundsA_v, settledA_v, state27A_v, authOpen_v, rauthOpen_v, authUsable_v, rauthUsable_v, authClear_v, rauthClear_v, tolValid_v, rtolValid_v, allowed_v, rallowed_v, checkPres_v, rable_v, apply_v, rapply_v, present_v, awake_v, short35_v, short32_v, applies_v, d1, d2]
      obtain ⟨e, l, he, h2, h3⟩ : ∃ (e : Nat) (l : List Au), e = 0 ∧ smallB L rs = ((L.drop e).all okAu && rs.all okRc) ∧ l = L.drop e := ⟨0, L, rfl, by simp [smallB, c1, c2], by simp⟩
      rw [show (5, some (Value.int .i64 0)) = (5, some (Value.int .i64 (e : Int))) by rw [he]; rfl]
      clear he nuE fr
      induction l generalizing e with
      | nil =>
        have hle := drop_nil h3
        have hlt : ((e : Int) < (L.length : Int)) = False := by simp; omega
        refine LoopA.intro (by kernel_rfl) ?_
        intro ν fr; have nuE := fr.nu
        simp (maxDischargeDepth := 16) only [argE_nil, argE_cons, ↓vmD, vmV, vmStd, Nat.reduceMul, ↓reduceIte, Nat.reduceAdd, Nat.reduceSub, Nat.reduceEqDiff, Nat.reduceLT, Nat.reduceLeDiff, reduceCtorEq, Int.reduceToNat, Int.reduceLT, Int.reduceLE, Int.reduceEq, Int.reduceNeg, Int.reduceBEq, Int.reduceBNe, String.reduceEq, forall_const, ↓vmDA, vmVA, ↓vmQA, vmR, vmRA, ↓vmSA, vmSV, tyS, nuE, SubA.skip, SubA.refl, fr.2, slIndexByte_v, indexByte_v, indexRune_v, containsRune_v, classOf_v, isWordByte_v, letter_v, digit_v, wordAt_v, rword_v, isName_v, risName_v, recId_v, authId_v, rId13_v, rId27_v, moneyCur_v, authCur_v, rCur27_v, rCur01_v, isPart_v, authCheck_v, inTotal_v, rwithin1_v, exCard_v, recCheck_v, rrecCheck_v, within27_v, rauthCheck_v, fundsA_v, settledA_v, state27A_v, authOpen_v, rauthOpen_v, authUsable_v, rauthUsable_v, authClear_v, rauthClear_v, tolValid_v, rtolValid_v, allowed_v, rallowed_v, checkPres_v, rable_v, apply_v, rapply_v, present_v, awake_v, short35_v, short32_v, applies_v, hlt]
        rw [← h3] at h2
        simp only [List.all_nil, Bool.true_and] at h2
        obtain ⟨e, l, he, h2, h3⟩ : ∃ (e : Nat) (l : List Rc), e = 0 ∧ smallB L rs = ((rs.drop e).all okRc) ∧ l = rs.drop e := ⟨0, rs, rfl, by simp [h2], by simp⟩
        rw [show (6, some (Value.int .i64 0)) = (6, some (Value.int .i64 (e : Int))) by rw [he]; rfl]
        clear he nuE fr
        induction l generalizing e with
        | nil =>
          have hle := drop_nil h3
          have hlt : ((e : Int) < (rs.length : Int)) = False := by simp; omega
          refine LoopA.intro (by kernel_rfl) ?_
          intro ν fr; have nuE := fr.nu
          rw [← h3] at h2
          simp (maxDischargeDepth := 16) only [argE_nil, argE_cons, ↓vmD, vmV, vmStd, Nat.reduceMul, ↓reduceIte, Nat.reduceAdd, Nat.reduceSub, Nat.reduceEqDiff, Nat.reduceLT, Nat.reduceLeDiff, reduceCtorEq, Int.reduceToNat, Int.reduceLT, Int.reduceLE, Int.reduceEq, Int.reduceNeg, Int.reduceBEq, Int.reduceBNe, String.reduceEq, forall_const, ↓vmDA, vmVA, ↓vmQA, vmR, vmRA, ↓vmSA, vmSV, tyS, nuE, SubA.skip, SubA.refl, fr.2, slIndexByte_v, indexByte_v, indexRune_v, containsRune_v, classOf_v, isWordByte_v, letter_v, digit_v, wordAt_v, rword_v, isName_v, risName_v, recId_v, authId_v, rId13_v, rId27_v, moneyCur_v, authCur_v, rCur27_v, rCur01_v, isPart_v, authCheck_v, inTotal_v, rwithin1_v, exCard_v, recCheck_v, rrecCheck_v, within27_v, rauthCheck_v, fundsA_v, settledA_v, state27A_v, authOpen_v, rauthOpen_v, authUsable_v, rauthUsable_v, authClear_v, rauthClear_v, tolValid_v, rtolValid_v, allowed_v, rallowed_v, checkPres_v, rable_v, apply_v, rapply_v, present_v, awake_v, short35_v, short32_v, applies_v, hlt, h2, List.all_nil]
        | cons a l ih =>
          obtain ⟨ha, hl2, h3'⟩ := drop_some h3
          have hlt : ((e : Int) < (rs.length : Int)) = True := by simp; omega
          have we : IntKind.i64.wrap ((e : Int) + 1) = ((e + 1 : Nat) : Int) := by rw [w_i64 (by omega) (by omega)]; omega
          obtain ⟨b, off, cs, ty, fr0, hp0, hb, hc, _⟩ := hR.at ha
          subst hp0
          rw [all_cons _ _ h3] at h2
          refine LoopA.intro (by kernel_rfl) ?_
          intro ν fr; have nuE := fr.nu
          by_cases hk : okRc a = true
          · have hk' := hk
            unfold okRc at hk'
            simp (maxDischargeDepth := 16) only [argE_nil, argE_cons, ↓vmD, vmV, vmStd, Nat.reduceMul, ↓reduceIte, Nat.reduceAdd, Nat.reduceSub, Nat.reduceEqDiff, Nat.reduceLT, Nat.reduceLeDiff, reduceCtorEq, Int.reduceToNat, Int.reduceLT, Int.reduceLE, Int.reduceEq, Int.reduceNeg, Int.reduceBEq, Int.reduceBNe, String.reduceEq, forall_const, ↓vmDA, vmVA, ↓vmQA, vmR, vmRA, ↓vmSA, vmSV, tyS, nuE, SubA.skip, SubA.refl, fr.2, slIndexByte_v, indexByte_v, indexRune_v, containsRune_v, classOf_v, isWordByte_v, letter_v, digit_v, wordAt_v, rword_v, isName_v, risName_v, recId_v, authId_v, rId13_v, rId27_v, moneyCur_v, authCur_v, rCur27_v, rCur01_v, isPart_v, authCheck_v, inTotal_v, rwithin1_v, exCard_v, recCheck_v, rrecCheck_v, within27_v, rauthCheck_v, fundsA_v, settledA_v, state27A_v, authOpen_v, rauthOpen_v, authUsable_v, rauthUsable_v, authClear_v, rauthClear_v, tolValid_v, rtolValid_v, allowed_v, rallowed_v, checkPres_v, rable_v, apply_v, rapply_v, present_v, awake_v, short35_v, short32_v, applies_v, hlt, hb, hc, rc_agg, hk', we]
            exact LoopA.weak (ih (e + 1) (by rw [h2, hk, Bool.true_and]) h3') (by simp only [subE, get_cons, Nat.reduceEqDiff, ↓reduceIte, reduceCtorEq, Nat.reduceAdd, and_self, and_true]) (SubA.refl _)
          · have hk0 : okRc a = false := by simpa using hk
            have hk' := hk0
            unfold okRc at hk'
            simp (maxDischargeDepth := 16) only [argE_nil, argE_cons, ↓vmD, vmV, vmStd, Nat.reduceMul, ↓reduceIte, Nat.reduceAdd, Nat.reduceSub, Nat.reduceEqDiff, Nat.reduceLT, Nat.reduceLeDiff, reduceCtorEq, Int.reduceToNat, Int.reduceLT, Int.reduceLE, Int.reduceEq, Int.reduceNeg, Int.reduceBEq, Int.reduceBNe, String.reduceEq, forall_const, ↓vmDA, vmVA, ↓vmQA, vmR, vmRA, ↓vmSA, vmSV, tyS, nuE, SubA.skip, SubA.refl, fr.2, slIndexByte_v, indexByte_v, indexRune_v, containsRune_v, classOf_v, isWordByte_v, letter_v, digit_v, wordAt_v, rword_v, isName_v, risName_v, recId_v, authId_v, rId13_v, rId27_v, moneyCur_v, authCur_v, rCur27_v, rCur01_v, isPart_v, authCheck_v, inTotal_v, rwithin1_v, exCard_v, recCheck_v, rrecCheck_v, within27_v, rauthCheck_v, fundsA_v, settledA_v, state27A_v, authOpen_v, rauthOpen_v, authUsable_v, rauthUsable_v, authClear_v, rauthClear_v, tolValid_v, rtolValid_v, allowed_v, rallowed_v, checkPres_v, rable_v, apply_v, rapply_v, present_v, awake_v, short35_v, short32_v, applies_v, hlt, hb, hc, rc_agg, hk', h2, hk0]
      | cons a l ih =>
        obtain ⟨ha, hl2, h3'⟩ := drop_some h3
        have hlt : ((e : Int) < (L.length : Int)) = True := by simp; omega
        have we : IntKind.i64.wrap ((e : Int) + 1) = ((e + 1 : Nat) : Int) := by rw [w_i64 (by omega) (by omega)]; omega
        obtain ⟨b, off, cs, ty, fr0, hp0, hb, hc, _⟩ := hL.at ha
        subst hp0
        rw [all_cons _ _ h3] at h2
        refine LoopA.intro (by kernel_rfl) ?_
        intro ν fr; have nuE := fr.nu
        by_cases hk : okAu a = true
        · have hk' := hk
          unfold okAu at hk'
          simp (maxDischargeDepth := 16) only [argE_nil, argE_cons, ↓vmD, vmV, vmStd, Nat.reduceMul, ↓reduceIte, Nat.reduceAdd, Nat.reduceSub, Nat.reduceEqDiff, Nat.reduceLT, Nat.reduceLeDiff, reduceCtorEq, Int.reduceToNat, Int.reduceLT, Int.reduceLE, Int.reduceEq, Int.reduceNeg, Int.reduceBEq, Int.reduceBNe, String.reduceEq, forall_const, ↓vmDA, vmVA, ↓vmQA, vmR, vmRA, ↓vmSA, vmSV, tyS, nuE, SubA.skip, SubA.refl, fr.2, slIndexByte_v, indexByte_v, indexRune_v, containsRune_v, classOf_v, isWordByte_v, letter_v, digit_v, wordAt_v, rword_v, isName_v, risName_v, recId_v, authId_v, rId13_v, rId27_v, moneyCur_v, authCur_v, rCur27_v, rCur01_v, isPart_v, authCheck_v, inTotal_v, rwithin1_v, exCard_v, recCheck_v, rrecCheck_v, within27_v, rauthCheck_v, fundsA_v, settledA_v, state27A_v, authOpen_v, rauthOpen_v, authUsable_v, rauthUsable_v, authClear_v, rauthClear_v, tolValid_v, rtolValid_v, allowed_v, rallowed_v, checkPres_v, rable_v, apply_v, rapply_v, present_v, awake_v, short35_v, short32_v, applies_v, hlt, hb, hc, au_agg, hk', we]
          exact LoopA.weak (ih (e + 1) (by rw [h2, hk, Bool.true_and]) h3') (by simp only [subE, get_cons, Nat.reduceEqDiff, ↓reduceIte, reduceCtorEq, Nat.reduceAdd, and_self, and_true]) (SubA.refl _)
        · have hk0 : okAu a = false := by simpa using hk
          have hk' := hk0
          unfold okAu at hk'
          simp (maxDischargeDepth := 16) only [argE_nil, argE_cons, ↓vmD, vmV, vmStd, Nat.reduceMul, ↓reduceIte, Nat.reduceAdd, Nat.reduceSub, Nat.reduceEqDiff, Nat.reduceLT, Nat.reduceLeDiff, reduceCtorEq, Int.reduceToNat, Int.reduceLT, Int.reduceLE, Int.reduceEq, Int.reduceNeg, Int.reduceBEq, Int.reduceBNe, String.reduceEq, forall_const, ↓vmDA, vmVA, ↓vmQA, vmR, vmRA, ↓vmSA, vmSV, tyS, nuE, SubA.skip, SubA.refl, fr.2, slIndexByte_v, indexByte_v, indexRune_v, containsRune_v, classOf_v, isWordByte_v, letter_v, digit_v, wordAt_v, rword_v, isName_v, risName_v, recId_v, authId_v, rId13_v, rId27_v, moneyCur_v, authCur_v, rCur27_v, rCur01_v, isPart_v, authCheck_v, inTotal_v, rwithin1_v, exCard_v, recCheck_v, rrecCheck_v, within27_v, rauthCheck_v, fundsA_v, settledA_v, state27A_v, authOpen_v, rauthOpen_v, authUsable_v, rauthUsable_v, authClear_v, rauthClear_v, tolValid_v, rtolValid_v, allowed_v, rallowed_v, checkPres_v, rable_v, apply_v, rapply_v, present_v, awake_v, short35_v, short32_v, applies_v, hlt, hb, hc, au_agg, hk', h2, hk0]
    · have d1 : ((30 : Int) < (L.length : Int)) = False := by simp; omega
      have d2 : ((40 : Int) < (rs.length : Int)) = True := by simp; omega
      simp (maxDischargeDepth := 16) only [argE_nil, argE_cons, ↓vmD, vmV, vmStd, Nat.reduceMul, ↓reduceIte, Nat.reduceAdd, Nat.reduceSub, Nat.reduceEqDiff, Nat.reduceLT, Nat.reduceLeDiff, reduceCtorEq, Int.reduceToNat, Int.reduceLT, Int.reduceLE, Int.reduceEq, Int.reduceNeg, Int.reduceBEq, Int.reduceBNe, String.reduceEq, forall_const, ↓vmDA, vmVA, ↓vmQA, vmR, vmRA, ↓vmSA, vmSV, tyS, nuE, SubA.skip, SubA.refl, fr.2, slIndexByte_v, indexByte_v, indexRune_v, containsRune_v, classOf_v, isWordByte_v, letter_v, digit_v, wordAt_v, rword_v, isName_v, risName_v, recId_v, authId_v, rId13_v, rId27_v, moneyCur_v, authCur_v, rCur27_v, rCur01_v, isPart_v, authCheck_v, inTotal_v, rwithin1_v, exCard_v, recCheck_v, rrecCheck_v, within27_v, rauthCheck_v, fundsA_v, settledA_v, state27A_v, authOpen_v, rauthOpen_v, authUsable_v, rauthUsable_v, authClear_v, rauthClear_v, tolValid_v, rtolValid_v, allowed_v, rallowed_v, checkPres_v, rable_v, apply_v, rapply_v, present_v, awake_v, short35_v, short32_v, applies_v, d1, d2, smallB, c1, c2]
  · have d1 : ((30 : Int) < (L.length : Int)) = True := by simp; omega
    simp (maxDischargeDepth := 16) only [argE_nil, argE_cons, ↓vmD, vmV, vmStd, Nat.reduceMul, ↓reduceIte, Nat.reduceAdd, Nat.reduceSub, Nat.reduceEqDiff, Nat.reduceLT, Nat.reduceLeDiff, reduceCtorEq, Int.reduceToNat, Int.reduceLT, Int.reduceLE, Int.reduceEq, Int.reduceNeg, Int.reduceBEq, Int.reduceBNe, String.reduceEq, forall_const, ↓vmDA, vmVA, ↓vmQA, vmR, vmRA, ↓vmSA, vmSV, tyS, nuE, SubA.skip, SubA.refl, fr.2, slIndexByte_v, indexByte_v, indexRune_v, containsRune_v, classOf_v, isWordByte_v, letter_v, digit_v, wordAt_v, rword_v, isName_v, risName_v, recId_v, authId_v, rId13_v, rId27_v, moneyCur_v, authCur_v, rCur27_v, rCur01_v, isPart_v, authCheck_v, inTotal_v, rwithin1_v, exCard_v, recCheck_v, rrecCheck_v, within27_v, rauthCheck_v, fundsA_v, settledA_v, state27A_v, authOpen_v, rauthOpen_v, authUsable_v, rauthUsable_v, authClear_v, rauthClear_v, tolValid_v, rtolValid_v, allowed_v, rallowed_v, checkPres_v, rable_v, apply_v, rapply_v, present_v, awake_v, short35_v, short32_v, applies_v, d1, smallB, c1]
theorem small_w (A : AH) (L : List Au) (p : Option Addr) (cap : Nat) (rs : List Rc) (q : Option Addr) (cq : Nat) (hL : StR Au.cells 10 A p L) (hR : StR Rc.cells 12 A q rs) (B_ : AH) (hB_ : SubA A B_) : valA Try.prog 18 #[.slice p L.length cap, .slice q rs.length cq] B_ = some (.bool (smallB L rs)) := valA_eq (pureA_at (by kernel_rfl) (small_h A L p cap rs q cq hL hR) hB_)
theorem small_v (A : AH) (L : List Au) (p : Option Addr) (cap : Nat) (rs : List Rc) (q : Option Addr) (cq : Nat) (hL : StR Au.cells 10 A p L) (hR : StR Rc.cells 12 A q rs) : valA Try.prog 18 #[.slice p L.length cap, .slice q rs.length cq] A = some (.bool (smallB L rs)) := valA_eq (pureA_at (by kernel_rfl) (small_h A L p cap rs q cq hL hR) (SubA.refl _))
theorem small_out {L : List Au} {rs : List Rc} (h : smallB L rs = true) : L.length ≤ 30 ∧ rs.length ≤ 40 ∧ szL L ∧ ∀ r ∈ rs, szR r := by
  simp only [smallB, Bool.and_eq_true, decide_eq_true_eq, List.all_eq_true] at h
  obtain ⟨h1, h2, h3, h4⟩ := h
  refine ⟨h1, h2, fun a ha => ?_, fun r hr => ?_⟩
  · have := h3 a ha
    simp [okAu, shA] at this
    omega
  · have := h4 r hr
    simp [okRc, shR] at this
    unfold szR
    omega
theorem sameEq_h (A : AH) (L : List Au) (p q : Option Addr) (cap cq : Nat) (hL : StR Au.cells 10 A p L) (hR : StR Au.cells 10 A q L) (hl : L.length ≤ 1000000) : CallA Try.prog 21 #[.slice p L.length cap, .slice q L.length cq] A (fun u_ A_ => u_ = .bool true ∧ SubA A A_) := by
  refine callA_of_denA ⟨Try.prog, 21, Try.f21, 26, [0, 1, 4, 5], [], [(6, .q false)], _⟩ (args := [_, _]) Try.func21 rfl (by kernel_rfl) Try.ntmps21 (by simp) (by kernel_rfl) ?_
  intro ν fr; have nuE := fr.nu
  simp (maxDischargeDepth := 16) only [argE_nil, argE_cons, ↓vmD, vmV, vmStd, Nat.reduceMul, ↓reduceIte, Nat.reduceAdd, Nat.reduceSub, Nat.reduceEqDiff, Nat.reduceLT, Nat.reduceLeDiff, reduceCtorEq, Int.reduceToNat, Int.reduceLT, Int.reduceLE, Int.reduceEq, Int.reduceNeg, Int.reduceBEq, Int.reduceBNe, String.reduceEq, forall_const, ↓vmDA, vmVA, ↓vmQA, vmR, vmRA, ↓vmSA, vmSV, tyS, nuE, SubA.skip, SubA.refl, fr.2, slIndexByte_v, indexByte_v, indexRune_v, containsRune_v, classOf_v, isWordByte_v, letter_v, digit_v, wordAt_v, rword_v, isName_v, risName_v, recId_v, authId_v, rId13_v, rId27_v, moneyCur_v, authCur_v, rCur27_v, rCur01_v, isPart_v, authCheck_v, inTotal_v, rwithin1_v, exCard_v, recCheck_v, rrecCheck_v, within27_v, rauthCheck_v, fundsA_v, settledA_v, state27A_v, authOpen_v, rauthOpen_v, authUsable_v, rauthUsable_v, authClear_v, rauthClear_v, tolValid_v, rtolValid_v, allowed_v, rallowed_v, checkPres_v, rable_v, apply_v, rapply_v, present_v, awake_v, short35_v, short32_v, applies_v]
  obtain ⟨e, l, he, h3⟩ : ∃ (e : Nat) (l : List Au), e = 0 ∧ l = L.drop e := ⟨0, L, rfl, by simp⟩
  rw [show (5, some (Value.int .i64 0)) = (5, some (Value.int .i64 (e : Int))) by rw [he]; rfl]
  clear he nuE fr
  induction l generalizing e with
  | nil =>
    have hle := drop_nil h3
    have hlt : ((e : Int) < (L.length : Int)) = False := by simp; omega
    refine LoopA.intro (by kernel_rfl) ?_
    intro ν fr; have nuE := fr.nu
    simp (maxDischargeDepth := 16) only [argE_nil, argE_cons, ↓vmD, vmV, vmStd, Nat.reduceMul, ↓reduceIte, Nat.reduceAdd, Nat.reduceSub, Nat.reduceEqDiff, Nat.reduceLT, Nat.reduceLeDiff, reduceCtorEq, Int.reduceToNat, Int.reduceLT, Int.reduceLE, Int.reduceEq, Int.reduceNeg, Int.reduceBEq, Int.reduceBNe, String.reduceEq, forall_const, ↓vmDA, vmVA, ↓vmQA, vmR, vmRA, ↓vmSA, vmSV, tyS, nuE, SubA.skip, SubA.refl, fr.2, slIndexByte_v, indexByte_v, indexRune_v, containsRune_v, classOf_v, isWordByte_v, letter_v, digit_v, wordAt_v, rword_v, isName_v, risName_v, recId_v, authId_v, rId13_v, rId27_v, moneyCur_v, authCur_v, rCur27_v, rCur01_v, isPart_v, authCheck_v, inTotal_v, rwithin1_v, exCard_v, recCheck_v, rrecCheck_v, within27_v, rauthCheck_v, fundsA_v, settledA_v, state27A_v, authOpen_v, rauthOpen_v, authUsable_v, rauthUsable_v, authClear_v, rauthClear_v, tolValid_v, rtolValid_v, allowed_v, rallowed_v, checkPres_v, rable_v, apply_v, rapply_v, present_v, awake_v, short35_v, short32_v, applies_v, hlt]
  | cons a l ih =>
    obtain ⟨ha, hl2, h3'⟩ := drop_some h3
    have hlt : ((e : Int) < (L.length : Int)) = True := by simp; omega
    have we : IntKind.i64.wrap ((e : Int) + 1) = ((e + 1 : Nat) : Int) := by rw [w_i64 (by omega) (by omega)]; omega
    obtain ⟨b, off, cs, ty, fr0, hp0, hb, hc, _⟩ := hL.at ha
    subst hp0
    obtain ⟨b2, off2, cs2, ty2, fr2, hp0, hb2, hc2, _⟩ := hR.at ha
    subst hp0
    refine LoopA.intro (by kernel_rfl) ?_
    intro ν fr; have nuE := fr.nu
    simp (maxDischargeDepth := 16) only [argE_nil, argE_cons, ↓vmD, vmV, vmStd, Nat.reduceMul, ↓reduceIte, Nat.reduceAdd, Nat.reduceSub, Nat.reduceEqDiff, Nat.reduceLT, Nat.reduceLeDiff, reduceCtorEq, Int.reduceToNat, Int.reduceLT, Int.reduceLE, Int.reduceEq, Int.reduceNeg, Int.reduceBEq, Int.reduceBNe, String.reduceEq, forall_const, ↓vmDA, vmVA, ↓vmQA, vmR, vmRA, ↓vmSA, vmSV, tyS, nuE, SubA.skip, SubA.refl, fr.2, slIndexByte_v, indexByte_v, indexRune_v, containsRune_v, classOf_v, isWordByte_v, letter_v, digit_v, wordAt_v, rword_v, isName_v, risName_v, recId_v, authId_v, rId13_v, rId27_v, moneyCur_v, authCur_v, rCur27_v, rCur01_v, isPart_v, authCheck_v, inTotal_v, rwithin1_v, exCard_v, recCheck_v, rrecCheck_v, within27_v, rauthCheck_v, fundsA_v, settledA_v, state27A_v, authOpen_v, rauthOpen_v, authUsable_v, rauthUsable_v, authClear_v, rauthClear_v, tolValid_v, rtolValid_v, allowed_v, rallowed_v, checkPres_v, rable_v, apply_v, rapply_v, present_v, awake_v, short35_v, short32_v, applies_v, hlt, hb, hc, hb2, hc2, au_agg, we]
    exact LoopA.weak (ih (e + 1) h3') (by simp only [subE, get_cons, Nat.reduceEqDiff, ↓reduceIte, reduceCtorEq, Nat.reduceAdd, and_self, and_true]) (SubA.refl _)
theorem sameEq_w (A : AH) (L : List Au) (p q : Option Addr) (cap cq : Nat) (hL : StR Au.cells 10 A p L) (hR : StR Au.cells 10 A q L) (hl : L.length ≤ 1000000) (B_ : AH) (hB_ : SubA A B_) : valA Try.prog 21 #[.slice p L.length cap, .slice q L.length cq] B_ = some (.bool true) := valA_eq (pureA_at (by kernel_rfl) (sameEq_h A L p q cap cq hL hR hl) hB_)
theorem sameEq_v (A : AH) (L : List Au) (p q : Option Addr) (cap cq : Nat) (hL : StR Au.cells 10 A p L) (hR : StR Au.cells 10 A q L) (hl : L.length ≤ 1000000) : valA Try.prog 21 #[.slice p L.length cap, .slice q L.length cq] A = some (.bool true) := valA_eq (pureA_at (by kernel_rfl) (sameEq_h A L p q cap cq hL hR hl) (SubA.refl _))
theorem runL_len (tb tf : Int) : ∀ (rs : List Rc) (L : List Au), (runL tb tf L rs).length = L.length
  | [], L => rfl
  | r :: rs, L => by simp only [runL]; rw [runL_len tb tf rs, procL_len]
theorem rej_len (tb tf : Int) : ∀ (rs : List Rc) (i : Nat) (L : List Au), (rejF tb tf rs i L).length ≤ rs.length
  | [], _, _ => by simp [rejF]
  | r :: rs, i, L => by
    have := rej_len tb tf rs (i + 1) (procL L r tb tf)
    simp only [rejF]
    split <;> simp <;> omega
theorem rj_agg (x : Rj) : Value.agg (Rj.cells x).toArray = .agg #[.int .i64 x.ix, .string x.id, .int .i64 x.co] := rfl
theorem sameB_refl : ∀ (x : List ByteArray), sameB x x = true
  | [] => rfl
  | x :: l => by simp [sameB, sameB_refl l]
theorem opens_len : ∀ (L : List Au), (opens L).length ≤ L.length
  | [] => by simp [opens]
  | a :: l => by
    have := opens_len l
    simp only [opens]
    split <;> simp <;> omega
theorem runsLaw_h (A : AH) (L : List Au) (p : Option Addr) (cap : Nat) (rs : List Rc) (q : Option Addr) (cq : Nat) (hL : StR Au.cells 10 A p L) (hR : StR Rc.cells 12 A q rs) (tb tf : Int) : CallA Try.prog 5 #[.slice p L.length cap, .slice q rs.length cq, .agg #[.int .i64 tb, .int .i64 tf]] A (fun u_ A_ => u_ = .bool true ∧ SubA A A_) := by
  refine callA_of_denA ⟨Try.prog, 5, Try.f5, 104, [0, 1, 2, 5, 6, 7, 8, 9, 10, 11, 12, 13, 14, 15, 16], [19, 20, 23, 24], [(10, .q false), (15, .q false), (16, .q false)], _⟩ (args := [_, _, _]) Try.func5 rfl (by kernel_rfl) Try.ntmps5 (by simp) (by kernel_rfl) ?_
  intro ν fr; have nuE := fr.nu
  have hsm := small_w A L p cap rs q cq hL hR
  cases hs : smallB L rs with
  | false => simp (maxDischargeDepth := 16) only [argE_nil, argE_cons, ↓vmD, vmV, vmStd, Nat.reduceMul, ↓reduceIte, Nat.reduceAdd, Nat.reduceSub, Nat.reduceEqDiff, Nat.reduceLT, Nat.reduceLeDiff, reduceCtorEq, Int.reduceToNat, Int.reduceLT, Int.reduceLE, Int.reduceEq, Int.reduceNeg, Int.reduceBEq, Int.reduceBNe, String.reduceEq, forall_const, ↓vmDA, vmVA, ↓vmQA, vmR, vmRA, ↓vmSA, vmSV, tyS, nuE, SubA.skip, SubA.refl, fr.2, slIndexByte_v, indexByte_v, indexRune_v, containsRune_v, classOf_v, isWordByte_v, letter_v, digit_v, wordAt_v, rword_v, isName_v, risName_v, recId_v, authId_v, rId13_v, rId27_v, moneyCur_v, authCur_v, rCur27_v, rCur01_v, isPart_v, authCheck_v, inTotal_v, rwithin1_v, exCard_v, recCheck_v, rrecCheck_v, within27_v, rauthCheck_v, fundsA_v, settledA_v, state27A_v, authOpen_v, rauthOpen_v, authUsable_v, rauthUsable_v, authClear_v, rauthClear_v, tolValid_v, rtolValid_v, allowed_v, rallowed_v, checkPres_v, rable_v, apply_v, rapply_v, present_v, awake_v, short35_v, short32_v, applies_v, hsm, hs]
  | true =>
    obtain ⟨h1, h2, hz, hzs⟩ := small_out hs
    have sA : SubA A ((ν 0, .cells #[.int .i64 tb, .int .i64 tf] 29) :: A) := SubA.skip (fr.2 0) (SubA.refl _)
    simp (maxDischargeDepth := 16) only [argE_nil, argE_cons, ↓vmD, vmV, vmStd, Nat.reduceMul, ↓reduceIte, Nat.reduceAdd, Nat.reduceSub, Nat.reduceEqDiff, Nat.reduceLT, Nat.reduceLeDiff, reduceCtorEq, Int.reduceToNat, Int.reduceLT, Int.reduceLE, Int.reduceEq, Int.reduceNeg, Int.reduceBEq, Int.reduceBNe, String.reduceEq, forall_const, ↓vmDA, vmVA, ↓vmQA, vmR, vmRA, ↓vmSA, vmSV, tyS, nuE, SubA.skip, SubA.refl, fr.2, slIndexByte_v, indexByte_v, indexRune_v, containsRune_v, classOf_v, isWordByte_v, letter_v, digit_v, wordAt_v, rword_v, isName_v, risName_v, recId_v, authId_v, rId13_v, rId27_v, moneyCur_v, authCur_v, rCur27_v, rCur01_v, isPart_v, authCheck_v, inTotal_v, rwithin1_v, exCard_v, recCheck_v, rrecCheck_v, within27_v, rauthCheck_v, fundsA_v, settledA_v, state27A_v, authOpen_v, rauthOpen_v, authUsable_v, rauthUsable_v, authClear_v, rauthClear_v, tolValid_v, rtolValid_v, allowed_v, rallowed_v, checkPres_v, rable_v, apply_v, rapply_v, present_v, awake_v, short35_v, short32_v, applies_v, hsm, hs]
    refine CallA.go (runA_h A L p cap rs q cq hL hR (by omega) (by omega) tb tf hz hzs) sA (by rintro u D ⟨_, _, _, _, _, _, _, _, _, h⟩; exact h) ?_
    rintro u D A1 ⟨va, vr, B, C, rfl, hB, hC, sB, sC, _⟩ hD hA1 _
    have ht : Vm.look A1 (ν 0) = some (.cells #[.int .i64 tb, .int .i64 tf] 29) := hA1 _ _ (by simp [Vm.look])
    have sA1 := SubA.trans sA hA1
    have sB1 := SubA.trans sB hD
    have sC1 := SubA.trans sC hD
    generalize ν 0 = n0 at *
    clear sB sC hD hA1 sA nuE fr
    intro ν' fr'
    have nuE := fr'.nu
    simp (maxDischargeDepth := 16) only [argE_nil, argE_cons, ↓vmD, vmV, vmStd, Nat.reduceMul, ↓reduceIte, Nat.reduceAdd, Nat.reduceSub, Nat.reduceEqDiff, Nat.reduceLT, Nat.reduceLeDiff, reduceCtorEq, Int.reduceToNat, Int.reduceLT, Int.reduceLE, Int.reduceEq, Int.reduceNeg, Int.reduceBEq, Int.reduceBNe, String.reduceEq, forall_const, ↓vmDA, vmVA, ↓vmQA, vmR, vmRA, ↓vmSA, vmSV, tyS, nuE, slIndexByte_v, indexByte_v, indexRune_v, containsRune_v, classOf_v, isWordByte_v, letter_v, digit_v, wordAt_v, rword_v, isName_v, risName_v, recId_v, authId_v, rId13_v, rId27_v, moneyCur_v, authCur_v, rCur27_v, rCur01_v, isPart_v, authCheck_v, inTotal_v, rwithin1_v, exCard_v, recCheck_v, rrecCheck_v, within27_v, rauthCheck_v, fundsA_v, settledA_v, state27A_v, authOpen_v, rauthOpen_v, authUsable_v, rauthUsable_v, authClear_v, rauthClear_v, tolValid_v, rtolValid_v, allowed_v, rallowed_v, checkPres_v, rable_v, apply_v, rapply_v, present_v, awake_v, short35_v, short32_v, applies_v, ht]
    refine CallA.go (rrunA_h A L p cap rs q cq hL hR (by omega) (by omega) tb tf hz hzs) sA1 (by rintro u D ⟨_, _, _, _, _, _, _, _, _, h⟩; exact h) ?_
    rintro u D A2 ⟨va2, vr2, B2, C2, rfl, hB2, hC2, sB2, sC2, _⟩ hD hA2 _
    have ht := hA2 _ _ ht
    have sA := SubA.trans sA1 hA2
    have sB := SubA.trans sB1 hA2
    have sC := SubA.trans sC1 hA2
    have sB2 := SubA.trans sB2 hD
    have sC2 := SubA.trans sC2 hD
    clear hA2 hD sA1 sB1 sC1 nuE fr'
    intro ν' fr
    have nuE := fr.nu
    obtain ⟨p1, c1, rfl, _, hS1⟩ := hB.read au_len
    obtain ⟨p2, c2, rfl, _, hS2⟩ := hB2.read au_len
    obtain ⟨q1, d1, rfl, _, hT1⟩ := hC.read rj_len
    obtain ⟨q2, d2, rfl, _, hT2⟩ := hC2.read rj_len
    have se := sameEq_v A2 _ p1 p2 c1 c2 (hS1.mono sB) (hS2.mono sB2) (by rw [runL_len]; omega)
    have hT1 := hT1.mono sC
    have hT2 := hT2.mono sC2
    have hJ := rej_len tb tf rs 0 L
    generalize rejF tb tf rs 0 L = J at *
    simp (maxDischargeDepth := 16) only [argE_nil, argE_cons, ↓vmD, vmV, vmStd, Nat.reduceMul, ↓reduceIte, Nat.reduceAdd, Nat.reduceSub, Nat.reduceEqDiff, Nat.reduceLT, Nat.reduceLeDiff, reduceCtorEq, Int.reduceToNat, Int.reduceLT, Int.reduceLE, Int.reduceEq, Int.reduceNeg, Int.reduceBEq, Int.reduceBNe, String.reduceEq, forall_const, ↓vmDA, vmVA, ↓vmQA, vmR, vmRA, ↓vmSA, vmSV, tyS, nuE, slIndexByte_v, indexByte_v, indexRune_v, containsRune_v, classOf_v, isWordByte_v, letter_v, digit_v, wordAt_v, rword_v, isName_v, risName_v, recId_v, authId_v, rId13_v, rId27_v, moneyCur_v, authCur_v, rCur27_v, rCur01_v, isPart_v, authCheck_v, inTotal_v, rwithin1_v, exCard_v, recCheck_v, rrecCheck_v, within27_v, rauthCheck_v, fundsA_v, settledA_v, state27A_v, authOpen_v, rauthOpen_v, authUsable_v, rauthUsable_v, authClear_v, rauthClear_v, tolValid_v, rtolValid_v, allowed_v, rallowed_v, checkPres_v, rable_v, apply_v, rapply_v, present_v, awake_v, short35_v, short32_v, applies_v, ht, se]
    obtain ⟨e, l, he, h3⟩ : ∃ (e : Nat) (l : List Rj), e = 0 ∧ l = J.drop e := ⟨0, J, rfl, by simp⟩
    rw [show (11, some (Value.int .i64 0)) = (11, some (Value.int .i64 (e : Int))) by rw [he]; rfl]
    clear he nuE fr hB hB2 hC hC2 hS1 hS2 se
    induction l generalizing e with
    | cons a l ih =>
      obtain ⟨ha, hl2, h3'⟩ := drop_some h3
      have hlt : ((e : Int) < (J.length : Int)) = True := by simp; omega
      have we : IntKind.i64.wrap ((e : Int) + 1) = ((e + 1 : Nat) : Int) := by rw [w_i64 (by omega) (by omega)]; omega
      obtain ⟨b, off, cs, ty, fr0, hp0, hb, hc, _⟩ := hT1.at ha
      subst hp0
      obtain ⟨b2, off2, cs2, ty2, fr2, hp0, hb2, hc2, _⟩ := hT2.at ha
      subst hp0
      refine LoopA.intro (by kernel_rfl) ?_
      intro ν fr; have nuE := fr.nu
      simp (maxDischargeDepth := 16) only [argE_nil, argE_cons, ↓vmD, vmV, vmStd, Nat.reduceMul, ↓reduceIte, Nat.reduceAdd, Nat.reduceSub, Nat.reduceEqDiff, Nat.reduceLT, Nat.reduceLeDiff, reduceCtorEq, Int.reduceToNat, Int.reduceLT, Int.reduceLE, Int.reduceEq, Int.reduceNeg, Int.reduceBEq, Int.reduceBNe, String.reduceEq, forall_const, ↓vmDA, vmVA, ↓vmQA, vmR, vmRA, ↓vmSA, vmSV, tyS, nuE, SubA.skip, SubA.refl, fr.2, slIndexByte_v, indexByte_v, indexRune_v, containsRune_v, classOf_v, isWordByte_v, letter_v, digit_v, wordAt_v, rword_v, isName_v, risName_v, recId_v, authId_v, rId13_v, rId27_v, moneyCur_v, authCur_v, rCur27_v, rCur01_v, isPart_v, authCheck_v, inTotal_v, rwithin1_v, exCard_v, recCheck_v, rrecCheck_v, within27_v, rauthCheck_v, fundsA_v, settledA_v, state27A_v, authOpen_v, rauthOpen_v, authUsable_v, rauthUsable_v, authClear_v, rauthClear_v, tolValid_v, rtolValid_v, allowed_v, rallowed_v, checkPres_v, rable_v, apply_v, rapply_v, present_v, awake_v, short35_v, short32_v, applies_v, hlt, hb, hc, hb2, hc2, rj_agg, we]
      exact LoopA.weak (ih (e + 1) h3') (by simp only [subE, get_cons, Nat.reduceEqDiff, ↓reduceIte, reduceCtorEq, Nat.reduceAdd, and_self, and_true]) (SubA.refl _)
    | nil =>
      have hle := drop_nil h3
      have hlt : ((e : Int) < (J.length : Int)) = False := by simp; omega
      refine LoopA.intro (by kernel_rfl) ?_
      intro ν fr; have nuE := fr.nu
      simp (maxDischargeDepth := 16) only [argE_nil, argE_cons, ↓vmD, vmV, vmStd, Nat.reduceMul, ↓reduceIte, Nat.reduceAdd, Nat.reduceSub, Nat.reduceEqDiff, Nat.reduceLT, Nat.reduceLeDiff, reduceCtorEq, Int.reduceToNat, Int.reduceLT, Int.reduceLE, Int.reduceEq, Int.reduceNeg, Int.reduceBEq, Int.reduceBNe, String.reduceEq, forall_const, ↓vmDA, vmVA, ↓vmQA, vmR, vmRA, ↓vmSA, vmSV, tyS, nuE, SubA.skip, SubA.refl, fr.2, slIndexByte_v, indexByte_v, indexRune_v, containsRune_v, classOf_v, isWordByte_v, letter_v, digit_v, wordAt_v, rword_v, isName_v, risName_v, recId_v, authId_v, rId13_v, rId27_v, moneyCur_v, authCur_v, rCur27_v, rCur01_v, isPart_v, authCheck_v, inTotal_v, rwithin1_v, exCard_v, recCheck_v, rrecCheck_v, within27_v, rauthCheck_v, fundsA_v, settledA_v, state27A_v, authOpen_v, rauthOpen_v, authUsable_v, rauthUsable_v, authClear_v, rauthClear_v, tolValid_v, rtolValid_v, allowed_v, rallowed_v, checkPres_v, rable_v, apply_v, rapply_v, present_v, awake_v, short35_v, short32_v, applies_v, hlt]
      obtain ⟨e, l, he, h3⟩ : ∃ (e : Nat) (l : List Rc), e = 0 ∧ l = rs.drop e := ⟨0, rs, rfl, by simp⟩
      rw [show (12, some (Value.int .i64 0)) = (12, some (Value.int .i64 (e : Int))) by rw [he]; rfl]
      clear he nuE fr
      induction l generalizing e with
      | cons r l ih =>
        obtain ⟨ha, hl2, h3'⟩ := drop_some h3
        have hlt : ((e : Int) < (rs.length : Int)) = True := by simp; omega
        have we : IntKind.i64.wrap ((e : Int) + 1) = ((e + 1 : Nat) : Int) := by rw [w_i64 (by omega) (by omega)]; omega
        obtain ⟨b, off, cs, ty, fr0, hp0, hb, hc, _⟩ := hR.at ha
        subst hp0
        have hb2 := sA _ _ hb
        obtain ⟨z1, z2, z3, z4, z5, z6, z7⟩ := hzs r (List.mem_of_getElem? ha)
        have m1 := mtchR_v A2 L p cap (hL.mono sA) (by omega) r.kd r.rid r.rau r.aq r.is r.me r.ca r.am r.rcu r.da r.ct r.fi tb tf z1 z2 z3 z4 z5 z6 z7 hz
        have m2 := rmtchR_v A2 L p cap (hL.mono sA) (by omega) r.kd r.rid r.rau r.aq r.is r.me r.ca r.am r.rcu r.da r.ct r.fi tb tf z1 z2 z3 z4 z5 z6 z7 hz
        have mv : matV L r.kd r.rid r.rau r.aq r.is r.me r.ca r.am r.rcu r.da r.ct r.fi tb tf = .tuple #[.int .i64 (matQ L r tb tf).1, .int .i64 (matQ L r tb tf).2] := rfl
        refine LoopA.intro (by kernel_rfl) ?_
        intro ν fr; have nuE := fr.nu
        simp (maxDischargeDepth := 16) only [argE_nil, argE_cons, ↓vmD, vmV, vmStd, Nat.reduceMul, ↓reduceIte, Nat.reduceAdd, Nat.reduceSub, Nat.reduceEqDiff, Nat.reduceLT, Nat.reduceLeDiff, reduceCtorEq, Int.reduceToNat, Int.reduceLT, Int.reduceLE, Int.reduceEq, Int.reduceNeg, Int.reduceBEq, Int.reduceBNe, String.reduceEq, forall_const, ↓vmDA, vmVA, ↓vmQA, vmR, vmRA, ↓vmSA, vmSV, tyS, nuE, SubA.skip, SubA.refl, fr.2, slIndexByte_v, indexByte_v, indexRune_v, containsRune_v, classOf_v, isWordByte_v, letter_v, digit_v, wordAt_v, rword_v, isName_v, risName_v, recId_v, authId_v, rId13_v, rId27_v, moneyCur_v, authCur_v, rCur27_v, rCur01_v, isPart_v, authCheck_v, inTotal_v, rwithin1_v, exCard_v, recCheck_v, rrecCheck_v, within27_v, rauthCheck_v, fundsA_v, settledA_v, state27A_v, authOpen_v, rauthOpen_v, authUsable_v, rauthUsable_v, authClear_v, rauthClear_v, tolValid_v, rtolValid_v, allowed_v, rallowed_v, checkPres_v, rable_v, apply_v, rapply_v, present_v, awake_v, short35_v, short32_v, applies_v, hlt, hb2, hc, ht, m1, m2, mv, rc_agg, we]
        exact LoopA.weak (ih (e + 1) h3') (by simp only [subE, get_cons, Nat.reduceEqDiff, ↓reduceIte, reduceCtorEq, Nat.reduceAdd, and_self, and_true]) (SubA.refl _)
      | nil =>
        have hle := drop_nil h3
        have hlt : ((e : Int) < (rs.length : Int)) = False := by simp; omega
        refine LoopA.intro (by kernel_rfl) ?_
        intro ν fr; have nuE := fr.nu
        simp (maxDischargeDepth := 16) only [argE_nil, argE_cons, ↓vmD, vmV, vmStd, Nat.reduceMul, ↓reduceIte, Nat.reduceAdd, Nat.reduceSub, Nat.reduceEqDiff, Nat.reduceLT, Nat.reduceLeDiff, reduceCtorEq, Int.reduceToNat, Int.reduceLT, Int.reduceLE, Int.reduceEq, Int.reduceNeg, Int.reduceBEq, Int.reduceBNe, String.reduceEq, forall_const, ↓vmDA, vmVA, ↓vmQA, vmR, vmRA, ↓vmSA, vmSV, tyS, nuE, SubA.skip, SubA.refl, fr.2, slIndexByte_v, indexByte_v, indexRune_v, containsRune_v, classOf_v, isWordByte_v, letter_v, digit_v, wordAt_v, rword_v, isName_v, risName_v, recId_v, authId_v, rId13_v, rId27_v, moneyCur_v, authCur_v, rCur27_v, rCur01_v, isPart_v, authCheck_v, inTotal_v, rwithin1_v, exCard_v, recCheck_v, rrecCheck_v, within27_v, rauthCheck_v, fundsA_v, settledA_v, state27A_v, authOpen_v, rauthOpen_v, authUsable_v, rauthUsable_v, authClear_v, rauthClear_v, tolValid_v, rtolValid_v, allowed_v, rallowed_v, checkPres_v, rable_v, apply_v, rapply_v, present_v, awake_v, short35_v, short32_v, applies_v, hlt]
        refine CallA.go (unmatchedR_h A L p cap hL (by omega) hz) sA (by rintro u D ⟨_, _, _, h, _⟩; exact h) ?_
        rintro u D A3 ⟨B, hB, sB, _, _⟩ hD hA3 _
        have sA := SubA.trans sA hA3
        have sB := SubA.trans sB hD
        clear hA3 hD nuE fr
        intro ν' fr
        have nuE := fr.nu
        simp (maxDischargeDepth := 16) only [argE_nil, argE_cons, ↓vmD, vmV, vmStd, Nat.reduceMul, ↓reduceIte, Nat.reduceAdd, Nat.reduceSub, Nat.reduceEqDiff, Nat.reduceLT, Nat.reduceLeDiff, reduceCtorEq, Int.reduceToNat, Int.reduceLT, Int.reduceLE, Int.reduceEq, Int.reduceNeg, Int.reduceBEq, Int.reduceBNe, String.reduceEq, forall_const, ↓vmDA, vmVA, ↓vmQA, vmR, vmRA, ↓vmSA, vmSV, tyS, nuE, slIndexByte_v, indexByte_v, indexRune_v, containsRune_v, classOf_v, isWordByte_v, letter_v, digit_v, wordAt_v, rword_v, isName_v, risName_v, recId_v, authId_v, rId13_v, rId27_v, moneyCur_v, authCur_v, rCur27_v, rCur01_v, isPart_v, authCheck_v, inTotal_v, rwithin1_v, exCard_v, recCheck_v, rrecCheck_v, within27_v, rauthCheck_v, fundsA_v, settledA_v, state27A_v, authOpen_v, rauthOpen_v, authUsable_v, rauthUsable_v, authClear_v, rauthClear_v, tolValid_v, rtolValid_v, allowed_v, rallowed_v, checkPres_v, rable_v, apply_v, rapply_v, present_v, awake_v, short35_v, short32_v, applies_v]
        refine CallA.go (runmatchedR_h A L p cap hL (by omega) hz) sA (by rintro u D ⟨_, _, _, h, _⟩; exact h) ?_
        rintro u2 D A4 ⟨B2, hB2, sB2, _, _⟩ hD hA4 _
        have sA := SubA.trans sA hA4
        have sB := SubA.trans sB hA4
        have sB2 := SubA.trans sB2 hD
        obtain ⟨p1, c1, rfl, hs1⟩ := OwnL.strR hB sB
        obtain ⟨p2, c2, rfl, hs2⟩ := OwnL.strR hB2 sB2
        have st := sameTexts_v A4 _ _ p1 p2 c1 c2 hs1 hs2 (by have := opens_len L; omega)
        clear hA4 hD nuE fr
        intro ν' fr
        have nuE := fr.nu
        simp (maxDischargeDepth := 16) only [argE_nil, argE_cons, ↓vmD, vmV, vmStd, Nat.reduceMul, ↓reduceIte, Nat.reduceAdd, Nat.reduceSub, Nat.reduceEqDiff, Nat.reduceLT, Nat.reduceLeDiff, reduceCtorEq, Int.reduceToNat, Int.reduceLT, Int.reduceLE, Int.reduceEq, Int.reduceNeg, Int.reduceBEq, Int.reduceBNe, String.reduceEq, forall_const, ↓vmDA, vmVA, ↓vmQA, vmR, vmRA, ↓vmSA, vmSV, tyS, nuE, slIndexByte_v, indexByte_v, indexRune_v, containsRune_v, classOf_v, isWordByte_v, letter_v, digit_v, wordAt_v, rword_v, isName_v, risName_v, recId_v, authId_v, rId13_v, rId27_v, moneyCur_v, authCur_v, rCur27_v, rCur01_v, isPart_v, authCheck_v, inTotal_v, rwithin1_v, exCard_v, recCheck_v, rrecCheck_v, within27_v, rauthCheck_v, fundsA_v, settledA_v, state27A_v, authOpen_v, rauthOpen_v, authUsable_v, rauthUsable_v, authClear_v, rauthClear_v, tolValid_v, rtolValid_v, allowed_v, rallowed_v, checkPres_v, rable_v, apply_v, rapply_v, present_v, awake_v, short35_v, short32_v, applies_v, st, sameB_refl]
        exact sA
theorem runsLaw_w (A : AH) (L : List Au) (p : Option Addr) (cap : Nat) (rs : List Rc) (q : Option Addr) (cq : Nat) (hL : StR Au.cells 10 A p L) (hR : StR Rc.cells 12 A q rs) (tb tf : Int) (B_ : AH) (hB_ : SubA A B_) : valA Try.prog 5 #[.slice p L.length cap, .slice q rs.length cq, .agg #[.int .i64 tb, .int .i64 tf]] B_ = some (.bool true) := valA_eq (pureA_at (by kernel_rfl) (runsLaw_h A L p cap rs q cq hL hR tb tf) hB_)
theorem runsLaw_v (A : AH) (L : List Au) (p : Option Addr) (cap : Nat) (rs : List Rc) (q : Option Addr) (cq : Nat) (hL : StR Au.cells 10 A p L) (hR : StR Rc.cells 12 A q rs) (tb tf : Int) : valA Try.prog 5 #[.slice p L.length cap, .slice q rs.length cq, .agg #[.int .i64 tb, .int .i64 tf]] A = some (.bool true) := valA_eq (pureA_at (by kernel_rfl) (runsLaw_h A L p cap rs q cq hL hR tb tf) (SubA.refl _))
theorem decA {h : Heap} (es : List Value) (hl : es.length = 10) (hf : Fits h (.st 10 [(0, 1, .str), (1, 1, .str), (2, 1, .int .i64), (3, 1, .int .i64), (4, 1, .int .i64), (5, 1, .int .i64), (6, 1, .int .i64), (7, 1, .int .i64), (8, 1, .int .i64), (9, 1, .int .i64)]) es) : ∃ x, Au.cells x = es := by
  obtain ⟨id, cu, ap, rv, cl, ex, st, tm, un, pa, e⟩ := fitsA (a := es.toArray) hf
  exact ⟨⟨id, cu, ap, rv, cl, ex, st, tm, un, pa⟩, (congrArg Array.toList e).symm⟩
theorem decR {h : Heap} (es : List Value) (hl : es.length = 12) (hf : Fits h (.st 12 [(0, 1, .int .i64), (1, 1, .str), (2, 1, .str), (3, 1, .str), (4, 1, .str), (5, 1, .str), (6, 1, .str), (7, 2, .st 2 [(0, 1, .int .i64), (1, 1, .str)]), (9, 1, .int .i64), (10, 1, .int .i64), (11, 1, .bool)]) es) : ∃ x, Rc.cells x = es := by
  obtain ⟨kd, rid, rau, aq, is, me, ca, am, rcu, da, ct, fi, e⟩ := fitsR (a := es.toArray) hf
  exact ⟨⟨kd, rid, rau, aq, is, me, ca, am, rcu, da, ct, fi⟩, (congrArg Array.toList e).symm⟩
theorem args35 {h : Heap} {a0 : Option Addr} {len0 cap0 : Nat} (w0 : Vm.Fits h (.sl 10 (.st 10 [(0, 1, .str), (1, 1, .str), (2, 1, .int .i64), (3, 1, .int .i64), (4, 1, .int .i64), (5, 1, .int .i64), (6, 1, .int .i64), (7, 1, .int .i64), (8, 1, .int .i64), (9, 1, .int .i64)])) [.slice a0 len0 cap0]) {a1 : Option Addr} {len1 cap1 : Nat} (w1 : Vm.Fits h (.sl 12 (.st 12 [(0, 1, .int .i64), (1, 1, .str), (2, 1, .str), (3, 1, .str), (4, 1, .str), (5, 1, .str), (6, 1, .str), (7, 2, .st 2 [(0, 1, .int .i64), (1, 1, .str)]), (9, 1, .int .i64), (10, 1, .int .i64), (11, 1, .bool)])) [.slice a1 len1 cap1]) :
    ∃ (A : AH) (L : List Au) (rs : List Rc), Sat A h ∧ StR Au.cells 10 A a0 L ∧ StR Rc.cells 12 A a1 rs ∧ len0 = L.length ∧ len1 = rs.length := by
  obtain ⟨p, cap, L, e1, _, _, _, A, hA, hL⟩ := list_fits Au.cells (v := .slice a0 len0 cap0) (by decide) decA w0 (by intro c hc; cases hc)
  obtain ⟨q, cq, rs, e2, _, _, _, B, hB, hR⟩ := list_fits Rc.cells (v := .slice a1 len1 cap1) (by decide) decR w1 (by intro c hc; cases hc)
  cases e1
  cases e2
  exact ⟨A ++ B, L, rs, hA.both hB, hL.mono (SubA.left _ _), hR.mono (sat_sub hA hB), rfl, rfl⟩
theorem runs_w (h : Heap) (a0 : Option Addr) (len0 cap0 : Nat) (w0 : Vm.Fits h (.sl 10 (.st 10 [(0, 1, .str), (1, 1, .str), (2, 1, .int .i64), (3, 1, .int .i64), (4, 1, .int .i64), (5, 1, .int .i64), (6, 1, .int .i64), (7, 1, .int .i64), (8, 1, .int .i64), (9, 1, .int .i64)])) [.slice a0 len0 cap0]) (a1 : Option Addr) (len1 cap1 : Nat) (w1 : Vm.Fits h (.sl 12 (.st 12 [(0, 1, .int .i64), (1, 1, .str), (2, 1, .str), (3, 1, .str), (4, 1, .str), (5, 1, .str), (6, 1, .str), (7, 2, .st 2 [(0, 1, .int .i64), (1, 1, .str)]), (9, 1, .int .i64), (10, 1, .int .i64), (11, 1, .bool)])) [.slice a1 len1 cap1]) (t : Array Value) (wt : Fits h (.st 2 [(0, 1, .int .i64), (1, 1, .int .i64)]) t.toList) :
    CallsH Try.prog 5 #[.slice a0 len0 cap0, .slice a1 len1 cap1, .agg t] h fun e h' => e = .returned (.bool true) ∧ Grew h h' := by
  obtain ⟨tb, tf, rfl⟩ := fitsT wt
  obtain ⟨A, L, rs, hA, hL, hR, rfl, rfl⟩ := args35 w0 w1
  exact callsH_of_pure (runsLaw_v A L a0 cap0 rs a1 cap1 hL hR tb tf) (by kernel_rfl) hA
end Go.Proofs.Ythahheeahdhepaa
