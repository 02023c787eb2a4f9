/-
MatchingConserves: the walk.
Conditions: none.
-/
import Derived.Test.YthahheeahdhepaaApp
namespace Go.Proofs.Ythahheeahdhepaa
open Go.Vm
set_option linter.unusedSimpArgs false
set_option linter.unusedVariables false
set_option maxHeartbeats 8000000
set_option maxRecDepth 20000
theorem chk_mk {id cu : ByteArray} {ap rv cl ex st tm un pa : Int} (h1 : idF id = true) (h2 : curF cu = true) (h3 : rngP ap rv cl ex) (h4 : 0 ≤ ap - rv - cl - ex) (h5 : timeP tm un) (h6 : partsP cl pa) (h7 : stateP ap rv cl ex st) : chkG id cu ap rv cl ex st tm un pa = 0 := by
  have h4' : ¬ ap - rv - cl - ex < 0 := by omega
  simp [chkG, h1, h2, h3, h4', h5, h6, h7]
/-- What an applied presentment asks. -/
theorem app_out {id cu : ByteArray} {ap rv cl ex st tm un pa kd : Int} {rid rau aq is me ca : ByteArray} {am : Int} {rcu : ByteArray} {da ct : Int} {fi : Bool} {b f : Int} (h : appE id cu ap rv cl ex st tm un pa kd rid rau aq is me ca am rcu da ct fi b f = 0) :
    ableG kd rid rau aq is me ca am rcu da ct b f = 0 ∧ chkG id cu ap rv cl ex st tm un pa = 0 ∧ rau.toList = id.toList ∧ rcu.toList = cu.toList ∧ st = 1 ∧ pa < 8 ∧ ¬ (ap - rv - cl - ex < am ∧ fi = false) ∧ ¬ ap - rv - cl - ex + moreG ap b f < am := by
  unfold appE at h
  repeat' split at h
  all_goals first | (cases h; done) | contradiction | skip
  rename_i k1 k2 k3 k4 k5 k6 k7
  simp only [ne_eq, Decidable.not_not] at k1 k2 k3 k4 k5
  exact ⟨k1, k2, k3, k4, k5, by omega, fun h => k7 (.inl h), fun h => k7 (.inr h)⟩
/-- The authorization afterwards is valid. -/
theorem app_next {id cu : ByteArray} {ap rv cl ex tm un pa am : Int} {fi : Bool} (hz : chkG id cu ap rv cl ex 1 tm un pa = 0) (hp : pa < 8) (hm : 1 ≤ am ∧ am ≤ 999999999999) :
    chkG id cu ap (rv + relG (ap - rv - cl - ex) am fi) (cl + min am (ap - rv - cl - ex)) ex (stF (ap - rv - cl - ex - min am (ap - rv - cl - ex) - relG (ap - rv - cl - ex) am fi) ex (cl + min am (ap - rv - cl - ex))) tm un (pa + 1) = 0 ∧
    0 < ap - rv - cl - ex ∧ 0 ≤ relG (ap - rv - cl - ex) am fi ∧ relG (ap - rv - cl - ex) am fi ≤ ap - rv - cl - ex - min am (ap - rv - cl - ex) ∧ ex = 0 := by
  obtain ⟨h1, h2, h3, h4, h5, h6, h7⟩ := chk_zero hz
  obtain ⟨r1, r2, r3, r4⟩ := h3
  have hop : 0 < ap - rv - cl - ex := by
    unfold stateP stF at h7
    have := h7.1
    split at this
    · assumption
    · split at this
      · omega
      · split at this <;> omega
  have hex : ex = 0 := by
    have := h7.2
    by_cases he : ex = 0
    · exact he
    · exact absurd ⟨rfl, he⟩ this
  have hrel : 0 ≤ relG (ap - rv - cl - ex) am fi ∧ relG (ap - rv - cl - ex) am fi ≤ ap - rv - cl - ex - min am (ap - rv - cl - ex) := by
    unfold relG
    split <;> omega
  unfold partsP at h6
  refine ⟨chk_mk h1 h2 ⟨r1, by omega, by omega, r4⟩ (by omega) h5 ⟨by omega, by omega, by omega, by omega⟩ ⟨?_, ?_⟩, hop, hrel.1, hrel.2, hex⟩
  · congr 1
    omega
  · rintro ⟨_, hx⟩
    exact hx hex
theorem idF_ne {id : ByteArray} (h : idF id = true) : ¬ id.toList = [] := by
  intro e
  have h2 := byte_end (s := id) (pos := 0) (by simp [e])
  simp only [idF, Bool.and_eq_true, decide_eq_true_eq] at h
  omega
theorem mat_one {id cu : ByteArray} {ap rv cl ex st tm un pa kd : Int} {rid rau aq is me ca : ByteArray} {am : Int} {rcu : ByteArray} {da ct : Int} {fi : Bool} {b f : Int} (hb : ableG kd rid rau aq is me ca am rcu da ct b f = 0) (he : rau.toList = id.toList) (hn : ¬ rau.toList = []) :
    matI [⟨id, cu, ap, rv, cl, ex, st, tm, un, pa⟩] kd rid rau aq is me ca am rcu da ct fi b f = (0, appE id cu ap rv cl ex st tm un pa kd rid rau aq is me ca am rcu da ct fi b f) := by
  by_cases h0 : appE id cu ap rv cl ex st tm un pa kd rid rau aq is me ca am rcu da ct fi b f = 0
  · simp [matI, hb, hn, findF, he.symm, appEA, h0]
  · simp [matI, hb, hn, findF, he.symm, appEA, h0]
/-- Once it is final, or nothing is open, nothing matches any more. -/
theorem app_after {id cu : ByteArray} {ap rv cl ex st tm un pa kd : Int} {rid rau aq is me ca : ByteArray} {am : Int} {rcu : ByteArray} {da ct : Int} {fi : Bool} {b f : Int} (hb : ableG kd rid rau aq is me ca am rcu da ct b f = 0) (hc : chkG id cu ap rv cl ex st tm un pa = 0) (h1 : rau.toList = id.toList) (h2 : rcu.toList = cu.toList) (hs : st ≠ 1) : appE id cu ap rv cl ex st tm un pa kd rid rau aq is me ca am rcu da ct fi b f = 8 := by
  simp [appE, hb, hc, h1, h2, hs]
theorem conserves_h (id cu : ByteArray) (ap rv cl ex st tm un pa : Int) (kd : Int) (rid rau aq is me ca : ByteArray) (am : Int) (rcu : ByteArray) (da ct : Int) (fi : Bool) (tb tf : Int) : CallA Try.prog 4 #[.agg #[.string id, .string cu, .int .i64 ap, .int .i64 rv, .int .i64 cl, .int .i64 ex, .int .i64 st, .int .i64 tm, .int .i64 un, .int .i64 pa], .agg #[.int .i64 kd, .string rid, .string rau, .string aq, .string is, .string me, .string ca, .int .i64 am, .string rcu, .int .i64 da, .int .i64 ct, .bool fi], .agg #[.int .i64 tb, .int .i64 tf]] [] (fun u_ _ => u_ = .bool true) := by
  refine callA_of_denA ⟨Try.prog, 4, Try.f4, 194, [0, 1, 2, 3, 4, 5, 6, 7, 8, 9, 10, 12, 14], [], [(9, .q false)], _⟩ (args := [_, _, _]) Try.func4 rfl (by kernel_rfl) Try.ntmps4 (by simp) (by kernel_rfl) ?_
  intro ν fr; have nuE := fr.nu
  cases hs : shA id cu with
  | false => simp (maxDischargeDepth := 16) only [argE_nil, argE_cons, ↓vmD, vmV, vmStd, Nat.reduceMul, ↓reduceIte, Nat.reduceAdd, Nat.reduceSub, Nat.reduceEqDiff, Nat.reduceLT, Nat.reduceLeDiff, reduceCtorEq, Int.reduceToNat, Int.reduceLT, Int.reduceLE, Int.reduceEq, Int.reduceNeg, Int.reduceBEq, Int.reduceBNe, String.reduceEq, forall_const, ↓vmDA, vmVA, ↓vmQA, vmR, vmRA, ↓vmSA, vmSV, tyS, nuE, slIndexByte_v, indexByte_v, indexRune_v, containsRune_v, classOf_v, isWordByte_v, letter_v, digit_v, wordAt_v, rword_v, isName_v, risName_v, recId_v, authId_v, rId13_v, rId27_v, moneyCur_v, authCur_v, rCur27_v, rCur01_v, isPart_v, authCheck_v, inTotal_v, rwithin1_v, exCard_v, recCheck_v, rrecCheck_v, within27_v, rauthCheck_v, fundsA_v, settledA_v, state27A_v, authOpen_v, rauthOpen_v, authUsable_v, rauthUsable_v, authClear_v, rauthClear_v, tolValid_v, rtolValid_v, allowed_v, rallowed_v, checkPres_v, rable_v, apply_v, rapply_v, present_v, awake_v, short35_v, short32_v, applies_v, hs]
  | true =>
    cases hr : shR rid rau aq is me ca rcu with
    | false => simp (maxDischargeDepth := 16) only [argE_nil, argE_cons, ↓vmD, vmV, vmStd, Nat.reduceMul, ↓reduceIte, Nat.reduceAdd, Nat.reduceSub, Nat.reduceEqDiff, Nat.reduceLT, Nat.reduceLeDiff, reduceCtorEq, Int.reduceToNat, Int.reduceLT, Int.reduceLE, Int.reduceEq, Int.reduceNeg, Int.reduceBEq, Int.reduceBNe, String.reduceEq, forall_const, ↓vmDA, vmVA, ↓vmQA, vmR, vmRA, ↓vmSA, vmSV, tyS, nuE, slIndexByte_v, indexByte_v, indexRune_v, containsRune_v, classOf_v, isWordByte_v, letter_v, digit_v, wordAt_v, rword_v, isName_v, risName_v, recId_v, authId_v, rId13_v, rId27_v, moneyCur_v, authCur_v, rCur27_v, rCur01_v, isPart_v, authCheck_v, inTotal_v, rwithin1_v, exCard_v, recCheck_v, rrecCheck_v, within27_v, rauthCheck_v, fundsA_v, settledA_v, state27A_v, authOpen_v, rauthOpen_v, authUsable_v, rauthUsable_v, authClear_v, rauthClear_v, tolValid_v, rtolValid_v, allowed_v, rallowed_v, checkPres_v, rable_v, apply_v, rapply_v, present_v, awake_v, short35_v, short32_v, applies_v, hs, hr]
    | true =>
      have ⟨h1, h2⟩ : id.size ≤ 100000 ∧ cu.size ≤ 100000 := by simp [shA] at hs; omega
      have ⟨z1, z2, z3, z4, z5, z6, z7⟩ : rid.size ≤ 100000 ∧ rau.size ≤ 100000 ∧ aq.size ≤ 100000 ∧ is.size ≤ 100000 ∧ me.size ≤ 100000 ∧ ca.size ≤ 100000 ∧ rcu.size ≤ 100000 := by simp [shR] at hr; omega
      by_cases he : appE id cu ap rv cl ex st tm un pa kd rid rau aq is me ca am rcu da ct fi tb tf = 0
      · obtain ⟨q0, q1, q2, q3, q4, q5, q6, q7⟩ := app_out he
        subst q4
        obtain ⟨qr, qk, qt⟩ := tolB_of q0
        obtain ⟨_, _, _, _, qam, _⟩ := chkR_zero qr
        obtain ⟨n1, n2, n3, n4, n5⟩ := app_next (fi := fi) q1 q5 qam
        obtain ⟨hid, hcu, hrng, hf, hti, hpa, hst⟩ := chk_zero q1
        have hA : alwB ap tb tf = true := by
          unfold rngP at hrng
          simp [alwB, qt]; omega
        obtain ⟨_, _, _, w4, w5, _⟩ := alw_w hA
        have hab := alw_b hA
        have hM : alwV ap tb tf = .tuple #[.int .i64 (moreG ap tb tf), .int .i64 0] := by simp only [alwV, hA, if_true, moreG]
        have hO : openG id cu ap rv cl ex 1 tm un pa = ap - rv - cl - ex := by simp only [openG, q1, if_true]
        have hO2 : openG id cu ap (rv + relG (ap - rv - cl - ex) am fi) (cl + min am (ap - rv - cl - ex)) ex (stF (ap - rv - cl - ex - min am (ap - rv - cl - ex) - relG (ap - rv - cl - ex) am fi) ex (cl + min am (ap - rv - cl - ex))) tm un (pa + 1) = ap - (rv + relG (ap - rv - cl - ex) am fi) - (cl + min am (ap - rv - cl - ex)) - ex := by simp only [openG, n1, if_true]
        have m1 := fun b A => mt1 b A id cu ap (rv + relG (ap - rv - cl - ex) am fi) (cl + min am (ap - rv - cl - ex)) ex (stF (ap - rv - cl - ex - min am (ap - rv - cl - ex) - relG (ap - rv - cl - ex) am fi) ex (cl + min am (ap - rv - cl - ex))) tm un (pa + 1) h1 h2 kd rid rau aq is me ca am rcu da ct fi z1 z2 z3 z4 z5 z6 z7 tb tf
        have hne : ¬ rau.toList = [] := by rw [q2]; exact idF_ne hid
        have m2 := @mat_one id cu ap (rv + relG (ap - rv - cl - ex) am fi) (cl + min am (ap - rv - cl - ex)) ex (stF (ap - rv - cl - ex - min am (ap - rv - cl - ex) - relG (ap - rv - cl - ex) am fi) ex (cl + min am (ap - rv - cl - ex))) tm un (pa + 1) kd rid rau aq is me ca am rcu da ct fi tb tf q0 q2 hne
        obtain ⟨r1, r2, r3, r4⟩ := (show _ from hrng)
        have a5 : IntKind.i64.wrap (pa + 1) = pa + 1 := by unfold partsP at hpa; exact w_i64 (by omega) (by omega)
        have hN : fi = true ∨ ap - (rv + relG (ap - rv - cl - ex) am fi) - (cl + min am (ap - rv - cl - ex)) - ex = 0 → appE id cu ap (rv + relG (ap - rv - cl - ex) am fi) (cl + min am (ap - rv - cl - ex)) ex (stF (ap - rv - cl - ex - min am (ap - rv - cl - ex) - relG (ap - rv - cl - ex) am fi) ex (cl + min am (ap - rv - cl - ex))) tm un (pa + 1) kd rid rau aq is me ca am rcu da ct fi tb tf = 8 := by
          intro h
          refine app_after q0 n1 q2 q3 ?_
          have h0 : ¬ 0 < ap - rv - cl - ex - min am (ap - rv - cl - ex) - relG (ap - rv - cl - ex) am fi := by
            rcases h with h | h
            · rw [h]; simp only [relG, if_true]; omega
            · omega
          unfold stF
          rw [if_neg h0, n5]
          simp
          split <;> decide
        have hx : (0 < am - min am (ap - rv - cl - ex)) = False ∨ (0 < relG (ap - rv - cl - ex) am fi) = False := by
          unfold relG
          by_cases h : ap - rv - cl - ex < am
          · right; simp; split <;> omega
          · left; simp; omega
        have hff : fi = false → (0 < am - min am (ap - rv - cl - ex)) = False ∧ (0 < relG (ap - rv - cl - ex) am fi) = False := by
          intro h
          have : ¬ ap - rv - cl - ex < am := fun h' => q6 ⟨h', h⟩
          rw [h]
          refine ⟨by simp; omega, by simp [relG]⟩
        have hm0 : 0 ≤ moreG ap tb tf := by unfold moreG; omega
        have um : 1 ≤ min am (ap - rv - cl - ex) ∧ min am (ap - rv - cl - ex) ≤ am ∧ min am (ap - rv - cl - ex) ≤ ap - rv - cl - ex ∧ am - min am (ap - rv - cl - ex) ≤ moreG ap tb tf := by omega
        generalize hrel : relG (ap - rv - cl - ex) am fi = rel at *
        generalize hu : min am (ap - rv - cl - ex) = u at *
        have c1 : (u < 1) = False := by simp; omega
        have c2 : (rel < 0) = False := by simp; omega
        have c3 : (am - u < 0) = False := by simp; omega
        have c4 : (moreG ap tb tf < am - u) = False := by simp; omega
        have a1 : IntKind.i64.wrap (ap - rv - cl - ex - (ap - (rv + rel) - (cl + u) - ex)) = u + rel := by rw [w_i64 (by omega) (by omega)]; omega
        have a2 : IntKind.i64.wrap (u + rel) = u + rel := w_i64 (by omega) (by omega)
        have a3 : IntKind.i64.wrap (u + (am - u)) = am := by rw [w_i64 (by omega) (by omega)]; omega
        have a4 : IntKind.i64.wrap (cl + u - cl) = u := by rw [w_i64 (by omega) (by omega)]; omega
        generalize hE : appE id cu ap (rv + rel) (cl + u) ex (stF (ap - rv - cl - ex - u - rel) ex (cl + u)) tm un (pa + 1) kd rid rau aq is me ca am rcu da ct fi tb tf = e2 at *
        have fin : ∀ (K : Prop), K → K := fun _ h => h
        have hO3 : (ap - (rv + rel) - (cl + u) - ex == 0) = decide (ap - (rv + rel) - (cl + u) - ex = 0) := rfl
        cases fi with
        | false =>
          have d1 := (hff rfl).1
          have d2 := (hff rfl).2
          by_cases ho : ap - (rv + rel) - (cl + u) - ex = 0
          · have e8 : e2 = 8 := hN (.inr ho)
            subst e8
            have a6 : IntKind.i64.wrap (ap - rv - cl - ex - 0) = u + rel := by rw [w_i64 (by omega) (by omega)]; omega
            simp (maxDischargeDepth := 16) only [argE_nil, argE_cons, ↓vmD, vmV, vmStd, Nat.reduceMul, ↓reduceIte, Nat.reduceAdd, Nat.reduceSub, Nat.reduceEqDiff, Nat.reduceLT, Nat.reduceLeDiff, reduceCtorEq, Int.reduceToNat, Int.reduceLT, Int.reduceLE, Int.reduceEq, Int.reduceNeg, Int.reduceBEq, Int.reduceBNe, String.reduceEq, forall_const, ↓vmDA, vmVA, ↓vmQA, vmR, vmRA, ↓vmSA, vmSV, tyS, nuE, slIndexByte_v, indexByte_v, indexRune_v, containsRune_v, classOf_v, isWordByte_v, letter_v, digit_v, wordAt_v, rword_v, isName_v, risName_v, recId_v, authId_v, rId13_v, rId27_v, moneyCur_v, authCur_v, rCur27_v, rCur01_v, isPart_v, authCheck_v, inTotal_v, rwithin1_v, exCard_v, recCheck_v, rrecCheck_v, within27_v, rauthCheck_v, fundsA_v, settledA_v, state27A_v, authOpen_v, rauthOpen_v, authUsable_v, rauthUsable_v, authClear_v, rauthClear_v, tolValid_v, rtolValid_v, allowed_v, rallowed_v, checkPres_v, rable_v, apply_v, rapply_v, present_v, awake_v, short35_v, short32_v, applies_v, a6, hs, hr, h1, h2, z1, z2, z3, z4, z5, z6, z7, hM, appV, appZ, appO, he, hE, sc_au1, m1, m2, n1, hO, hO2, hrel, hu, c1, c2, c3, c4, a1, a2, a3, a4, a5, d1, d2, ho]
          · by_cases e0 : e2 = 0
            · subst e0
              simp (maxDischargeDepth := 16) only [argE_nil, argE_cons, ↓vmD, vmV, vmStd, Nat.reduceMul, ↓reduceIte, Nat.reduceAdd, Nat.reduceSub, Nat.reduceEqDiff, Nat.reduceLT, Nat.reduceLeDiff, reduceCtorEq, Int.reduceToNat, Int.reduceLT, Int.reduceLE, Int.reduceEq, Int.reduceNeg, Int.reduceBEq, Int.reduceBNe, String.reduceEq, forall_const, ↓vmDA, vmVA, ↓vmQA, vmR, vmRA, ↓vmSA, vmSV, tyS, nuE, slIndexByte_v, indexByte_v, indexRune_v, containsRune_v, classOf_v, isWordByte_v, letter_v, digit_v, wordAt_v, rword_v, isName_v, risName_v, recId_v, authId_v, rId13_v, rId27_v, moneyCur_v, authCur_v, rCur27_v, rCur01_v, isPart_v, authCheck_v, inTotal_v, rwithin1_v, exCard_v, recCheck_v, rrecCheck_v, within27_v, rauthCheck_v, fundsA_v, settledA_v, state27A_v, authOpen_v, rauthOpen_v, authUsable_v, rauthUsable_v, authClear_v, rauthClear_v, tolValid_v, rtolValid_v, allowed_v, rallowed_v, checkPres_v, rable_v, apply_v, rapply_v, present_v, awake_v, short35_v, short32_v, applies_v, hs, hr, h1, h2, z1, z2, z3, z4, z5, z6, z7, hM, appV, appZ, appO, he, hE, sc_au1, m1, m2, n1, hO, hO2, hrel, hu, c1, c2, c3, c4, a1, a2, a3, a4, a5, d1, d2, ho]
            · simp (maxDischargeDepth := 16) only [argE_nil, argE_cons, ↓vmD, vmV, vmStd, Nat.reduceMul, ↓reduceIte, Nat.reduceAdd, Nat.reduceSub, Nat.reduceEqDiff, Nat.reduceLT, Nat.reduceLeDiff, reduceCtorEq, Int.reduceToNat, Int.reduceLT, Int.reduceLE, Int.reduceEq, Int.reduceNeg, Int.reduceBEq, Int.reduceBNe, String.reduceEq, forall_const, ↓vmDA, vmVA, ↓vmQA, vmR, vmRA, ↓vmSA, vmSV, tyS, nuE, slIndexByte_v, indexByte_v, indexRune_v, containsRune_v, classOf_v, isWordByte_v, letter_v, digit_v, wordAt_v, rword_v, isName_v, risName_v, recId_v, authId_v, rId13_v, rId27_v, moneyCur_v, authCur_v, rCur27_v, rCur01_v, isPart_v, authCheck_v, inTotal_v, rwithin1_v, exCard_v, recCheck_v, rrecCheck_v, within27_v, rauthCheck_v, fundsA_v, settledA_v, state27A_v, authOpen_v, rauthOpen_v, authUsable_v, rauthUsable_v, authClear_v, rauthClear_v, tolValid_v, rtolValid_v, allowed_v, rallowed_v, checkPres_v, rable_v, apply_v, rapply_v, present_v, awake_v, short35_v, short32_v, applies_v, hs, hr, h1, h2, z1, z2, z3, z4, z5, z6, z7, hM, appV, appZ, appO, he, hE, sc_au1, m1, m2, n1, hO, hO2, hrel, hu, c1, c2, c3, c4, a1, a2, a3, a4, a5, d1, d2, ho, e0]
        | true =>
          have e8 : e2 = 8 := hN (.inl rfl)
          subst e8
          rcases hx with d1 | d1
          · simp (maxDischargeDepth := 16) only [argE_nil, argE_cons, ↓vmD, vmV, vmStd, Nat.reduceMul, ↓reduceIte, Nat.reduceAdd, Nat.reduceSub, Nat.reduceEqDiff, Nat.reduceLT, Nat.reduceLeDiff, reduceCtorEq, Int.reduceToNat, Int.reduceLT, Int.reduceLE, Int.reduceEq, Int.reduceNeg, Int.reduceBEq, Int.reduceBNe, String.reduceEq, forall_const, ↓vmDA, vmVA, ↓vmQA, vmR, vmRA, ↓vmSA, vmSV, tyS, nuE, slIndexByte_v, indexByte_v, indexRune_v, containsRune_v, classOf_v, isWordByte_v, letter_v, digit_v, wordAt_v, rword_v, isName_v, risName_v, recId_v, authId_v, rId13_v, rId27_v, moneyCur_v, authCur_v, rCur27_v, rCur01_v, isPart_v, authCheck_v, inTotal_v, rwithin1_v, exCard_v, recCheck_v, rrecCheck_v, within27_v, rauthCheck_v, fundsA_v, settledA_v, state27A_v, authOpen_v, rauthOpen_v, authUsable_v, rauthUsable_v, authClear_v, rauthClear_v, tolValid_v, rtolValid_v, allowed_v, rallowed_v, checkPres_v, rable_v, apply_v, rapply_v, present_v, awake_v, short35_v, short32_v, applies_v, hs, hr, h1, h2, z1, z2, z3, z4, z5, z6, z7, hM, appV, appZ, appO, he, hE, sc_au1, m1, m2, n1, hO, hO2, hrel, hu, c1, c2, c3, c4, a1, a2, a3, a4, a5, d1]
          · simp (maxDischargeDepth := 16) only [argE_nil, argE_cons, ↓vmD, vmV, vmStd, Nat.reduceMul, ↓reduceIte, Nat.reduceAdd, Nat.reduceSub, Nat.reduceEqDiff, Nat.reduceLT, Nat.reduceLeDiff, reduceCtorEq, Int.reduceToNat, Int.reduceLT, Int.reduceLE, Int.reduceEq, Int.reduceNeg, Int.reduceBEq, Int.reduceBNe, String.reduceEq, forall_const, ↓vmDA, vmVA, ↓vmQA, vmR, vmRA, ↓vmSA, vmSV, tyS, nuE, slIndexByte_v, indexByte_v, indexRune_v, containsRune_v, classOf_v, isWordByte_v, letter_v, digit_v, wordAt_v, rword_v, isName_v, risName_v, recId_v, authId_v, rId13_v, rId27_v, moneyCur_v, authCur_v, rCur27_v, rCur01_v, isPart_v, authCheck_v, inTotal_v, rwithin1_v, exCard_v, recCheck_v, rrecCheck_v, within27_v, rauthCheck_v, fundsA_v, settledA_v, state27A_v, authOpen_v, rauthOpen_v, authUsable_v, rauthUsable_v, authClear_v, rauthClear_v, tolValid_v, rtolValid_v, allowed_v, rallowed_v, checkPres_v, rable_v, apply_v, rapply_v, present_v, awake_v, short35_v, short32_v, applies_v, hs, hr, h1, h2, z1, z2, z3, z4, z5, z6, z7, hM, appV, appZ, appO, he, hE, sc_au1, m1, m2, n1, hO, hO2, hrel, hu, c1, c2, c3, c4, a1, a2, a3, a4, a5, d1, ite_self]
      · simp (maxDischargeDepth := 16) only [argE_nil, argE_cons, ↓vmD, vmV, vmStd, Nat.reduceMul, ↓reduceIte, Nat.reduceAdd, Nat.reduceSub, Nat.reduceEqDiff, Nat.reduceLT, Nat.reduceLeDiff, reduceCtorEq, Int.reduceToNat, Int.reduceLT, Int.reduceLE, Int.reduceEq, Int.reduceNeg, Int.reduceBEq, Int.reduceBNe, String.reduceEq, forall_const, ↓vmDA, vmVA, ↓vmQA, vmR, vmRA, ↓vmSA, vmSV, tyS, nuE, slIndexByte_v, indexByte_v, indexRune_v, containsRune_v, classOf_v, isWordByte_v, letter_v, digit_v, wordAt_v, rword_v, isName_v, risName_v, recId_v, authId_v, rId13_v, rId27_v, moneyCur_v, authCur_v, rCur27_v, rCur01_v, isPart_v, authCheck_v, inTotal_v, rwithin1_v, exCard_v, recCheck_v, rrecCheck_v, within27_v, rauthCheck_v, fundsA_v, settledA_v, state27A_v, authOpen_v, rauthOpen_v, authUsable_v, rauthUsable_v, authClear_v, rauthClear_v, tolValid_v, rtolValid_v, allowed_v, rallowed_v, checkPres_v, rable_v, apply_v, rapply_v, present_v, awake_v, short35_v, short32_v, applies_v, hs, hr, h1, h2, z1, z2, z3, z4, z5, z6, z7, appV, appZ, he]
theorem conserves_v (id cu : ByteArray) (ap rv cl ex st tm un pa : Int) (kd : Int) (rid rau aq is me ca : ByteArray) (am : Int) (rcu : ByteArray) (da ct : Int) (fi : Bool) (tb tf : Int) (A_ : AH) : valA Try.prog 4 #[.agg #[.string id, .string cu, .int .i64 ap, .int .i64 rv, .int .i64 cl, .int .i64 ex, .int .i64 st, .int .i64 tm, .int .i64 un, .int .i64 pa], .agg #[.int .i64 kd, .string rid, .string rau, .string aq, .string is, .string me, .string ca, .int .i64 am, .string rcu, .int .i64 da, .int .i64 ct, .bool fi], .agg #[.int .i64 tb, .int .i64 tf]] A_ = some (.bool true) := valA_eq (pureA_of (by kernel_rfl) (conserves_h id cu ap rv cl ex st tm un pa kd rid rau aq is me ca am rcu da ct fi tb tf))
theorem conserves_w (h : Heap) (a : Array Value) (wa : Fits h (.st 10 [(0, 1, .str), (1, 1, .str), (2, 1, .int .i64), (3, 1, .int .i64), (4, 1, .int .i64), (5, 1, .int .i64), (6, 1, .int .i64), (7, 1, .int .i64), (8, 1, .int .i64), (9, 1, .int .i64)]) a.toList) (r : Array Value) (wr : Fits h (.st 12 [(0, 1, .int .i64), (1, 1, .str), (2, 1, .str), (3, 1, .str), (4, 1, .str), (5, 1, .str), (6, 1, .str), (7, 2, .st 2 [(0, 1, .int .i64), (1, 1, .str)]), (9, 1, .int .i64), (10, 1, .int .i64), (11, 1, .bool)]) r.toList) (t : Array Value) (wt : Fits h (.st 2 [(0, 1, .int .i64), (1, 1, .int .i64)]) t.toList) :
    CallsH Try.prog 4 #[.agg a, .agg r, .agg t] h fun e h' => e = .returned (.bool true) ∧ Grew h h' := by
  obtain ⟨id, cu, ap, rv, cl, ex, st, tm, un, pa, rfl⟩ := fitsA wa
  obtain ⟨kd, rid, rau, aq, is, me, ca, am, rcu, da, ct, fi, rfl⟩ := fitsR wr
  obtain ⟨tb, tf, rfl⟩ := fitsT wt
  exact callsH_of_pure (conserves_v id cu ap rv cl ex st tm un pa kd rid rau aq is me ca am rcu da ct fi tb tf []) (by kernel_rfl) (Sat.nil h)
end Go.Proofs.Ythahheeahdhepaa
