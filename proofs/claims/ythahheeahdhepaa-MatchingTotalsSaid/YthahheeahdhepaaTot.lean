/-
MatchingTotals: the walk.
Conditions: none.
-/
import Derived.Test.YthahheeahdhepaaLaw
import Derived.Test.YthahheeahdhepaaCon
namespace Go.Proofs.Ythahheeahdhepaa
open Go.Vm
set_option linter.unusedSimpArgs false
set_option linter.unusedVariables false
set_option maxHeartbeats 4000000
set_option maxRecDepth 20000
theorem rej_at (tb tf : Int) : ∀ (rs : List Rc) (k : Nat) (L : List Au) (i : Nat) (x : Rj), (rejF tb tf rs k L)[i]? = some x → ∃ (m : Nat) (r : Rc), x.ix = ((k + m : Nat) : Int) ∧ rs[m]? = some r ∧ x.id = r.rid ∧ x.co ≠ 0
  | [], k, L, i, x, h => by simp [rejF] at h
  | r :: rs, k, L, i, x, h => by
    have rek : ∀ j, (rejF tb tf rs (k + 1) (procL L r tb tf))[j]? = some x → ∃ (m : Nat) (r' : Rc), x.ix = ((k + m : Nat) : Int) ∧ (r :: rs)[m]? = some r' ∧ x.id = r'.rid ∧ x.co ≠ 0 := fun j hj => by
      obtain ⟨m, r', h1, h2, h3, h4⟩ := rej_at tb tf rs _ _ j x hj
      exact ⟨m + 1, r', by rw [h1]; congr 1; omega, by simpa using h2, h3, h4⟩
    simp only [rejF] at h
    split at h
    · exact rek i h
    · rename_i hq
      cases i with
      | zero => cases h; exact ⟨0, r, by simp, rfl, rfl, hq⟩
      | succ j => exact rek j (by simpa using h)
theorem rej_up (tb tf : Int) : ∀ (rs : List Rc) (k : Nat) (L : List Au) (i : Nat) (x y : Rj), (rejF tb tf rs k L)[i]? = some x → (rejF tb tf rs k L)[i + 1]? = some y → x.ix < y.ix
  | [], k, L, i, x, y, h, _ => by simp [rejF] at h
  | r :: rs, k, L, i, x, y, h, h2 => by
    simp only [rejF] at h h2
    split at h
    · rename_i hq
      rw [if_pos hq] at h2
      exact rej_up tb tf rs _ _ i x y h h2
    · rename_i hq
      rw [if_neg hq] at h2
      cases i with
      | zero =>
        cases h
        obtain ⟨m, r', h1, _⟩ := rej_at tb tf rs _ _ 0 y (by simpa using h2)
        simp only [h1]
        omega
      | succ j => exact rej_up tb tf rs _ _ j x y (by simpa using h) (by simpa using h2)
theorem procL_rej {L : List Au} {r : Rc} {tb tf : Int} (h : procE L r tb tf ≠ 0) : procL L r tb tf = L := by
  unfold procE at h
  unfold procL
  split at h
  · rename_i q; rw [if_pos q]
  · rename_i q
    rw [if_neg q]
    split at h
    · exact absurd rfl h
    · rename_i q1
      rw [if_neg q1, if_pos h]
theorem totals_h (A : AH) (L : List Au) (p : Option Addr) (cap : Nat) (rs : List Rc) (q : Option Addr) (cq : Nat) (hL : StR Au.cells 10 A p L) (hR : StR Rc.cells 12 A q rs) (tb tf : Int) : CallA Try.prog 6 #[.slice p L.length cap, .slice q rs.length cq, .agg #[.int .i64 tb, .int .i64 tf]] A (fun u_ A_ => u_ = .bool true ∧ SubA A A_) := by
  refine callA_of_denA ⟨Try.prog, 6, Try.f6, 219, [0, 1, 2, 5, 6, 7, 8, 9, 10, 11, 12, 13, 14, 15, 16, 17], [19], [(9, .q false), (20, .q false), (21, .q false), (23, .p [(0, 0), (1, 0), (2, 0), (3, 0), (4, 0), (5, 0), (6, 0), (7, 0), (8, 0), (9, 0), (10, 0), (11, 0), (12, 0), (13, 1), (14, 2), (15, 0)]), (24, .q false)], _⟩ (args := [_, _, _]) Try.func6 rfl (by kernel_rfl) Try.ntmps6 (by simp) (by kernel_rfl) ?_
  intro ν fr; have nuE := fr.nu
  have hsm := small_w A L p cap rs q cq hL hR
  cases hs : smallB L rs with
  | false => simp (maxDischargeDepth := 16) only [argE_nil, argE_cons, ↓vmD, vmV, vmStd, Nat.reduceMul, ↓reduceIte, Nat.reduceAdd, Nat.reduceSub, Nat.reduceEqDiff, Nat.reduceLT, Nat.reduceLeDiff, reduceCtorEq, Int.reduceToNat, Int.reduceLT, Int.reduceLE, Int.reduceEq, Int.reduceNeg, Int.reduceBEq, Int.reduceBNe, String.reduceEq, forall_const, ↓vmDA, vmVA, ↓vmQA, vmR, vmRA, ↓vmSA, vmSV, tyS, nuE, SubA.skip, SubA.refl, fr.2, slIndexByte_v, indexByte_v, indexRune_v, containsRune_v, classOf_v, isWordByte_v, letter_v, digit_v, wordAt_v, rword_v, isName_v, risName_v, recId_v, authId_v, rId13_v, rId27_v, moneyCur_v, authCur_v, rCur27_v, rCur01_v, isPart_v, authCheck_v, inTotal_v, rwithin1_v, exCard_v, recCheck_v, rrecCheck_v, within27_v, rauthCheck_v, fundsA_v, settledA_v, state27A_v, authOpen_v, rauthOpen_v, authUsable_v, rauthUsable_v, authClear_v, rauthClear_v, tolValid_v, rtolValid_v, allowed_v, rallowed_v, checkPres_v, rable_v, apply_v, rapply_v, present_v, awake_v, short35_v, short32_v, applies_v, conserves_v, hsm, hs]
  | true =>
    obtain ⟨h1, h2, hz, hzs⟩ := small_out hs
    have sA : SubA A ((ν 0, .cells #[.int .i64 tb, .int .i64 tf] 29) :: A) := SubA.skip (fr.2 0) (SubA.refl _)
    simp (maxDischargeDepth := 16) only [argE_nil, argE_cons, ↓vmD, vmV, vmStd, Nat.reduceMul, ↓reduceIte, Nat.reduceAdd, Nat.reduceSub, Nat.reduceEqDiff, Nat.reduceLT, Nat.reduceLeDiff, reduceCtorEq, Int.reduceToNat, Int.reduceLT, Int.reduceLE, Int.reduceEq, Int.reduceNeg, Int.reduceBEq, Int.reduceBNe, String.reduceEq, forall_const, ↓vmDA, vmVA, ↓vmQA, vmR, vmRA, ↓vmSA, vmSV, tyS, nuE, SubA.skip, SubA.refl, fr.2, slIndexByte_v, indexByte_v, indexRune_v, containsRune_v, classOf_v, isWordByte_v, letter_v, digit_v, wordAt_v, rword_v, isName_v, risName_v, recId_v, authId_v, rId13_v, rId27_v, moneyCur_v, authCur_v, rCur27_v, rCur01_v, isPart_v, authCheck_v, inTotal_v, rwithin1_v, exCard_v, recCheck_v, rrecCheck_v, within27_v, rauthCheck_v, fundsA_v, settledA_v, state27A_v, authOpen_v, rauthOpen_v, authUsable_v, rauthUsable_v, authClear_v, rauthClear_v, tolValid_v, rtolValid_v, allowed_v, rallowed_v, checkPres_v, rable_v, apply_v, rapply_v, present_v, awake_v, short35_v, short32_v, applies_v, conserves_v, hsm, hs]
    refine CallA.go (runA_h A L p cap rs q cq hL hR (by omega) (by omega) tb tf hz hzs) sA (by rintro u D ⟨_, _, _, _, _, _, _, _, _, h⟩; exact h) ?_
    rintro u D A1 ⟨va, vr, B, C, rfl, hB, hC, sB, sC, _⟩ hD hA1 _
    have ht : Vm.look A1 (ν 0) = some (.cells #[.int .i64 tb, .int .i64 tf] 29) := hA1 _ _ (by simp [Vm.look])
    have sA1 := SubA.trans sA hA1
    have sB1 := SubA.trans sB hD
    have sC1 := SubA.trans sC hD
    generalize ν 0 = n0 at *
    clear sB sC hD hA1 sA nuE fr
    intro ν' fr
    have nuE := fr.nu
    obtain ⟨p1, c1, rfl, _, hS1⟩ := hB.read au_len
    obtain ⟨q1, d1, rfl, _, hT1⟩ := hC.read rj_len
    have hT1 := hT1.mono sC1
    have hO1 := hS1.mono sB1
    have hJ := rej_len tb tf rs 0 L
    have hRl := runL_len tb tf rs L
    have jl : ((rs.length : Int) < ((rejF tb tf rs 0 L).length : Int)) = False := by simp; omega
    generalize hJe : rejF tb tf rs 0 L = J at *
    simp (maxDischargeDepth := 16) only [argE_nil, argE_cons, ↓vmD, vmV, vmStd, Nat.reduceMul, ↓reduceIte, Nat.reduceAdd, Nat.reduceSub, Nat.reduceEqDiff, Nat.reduceLT, Nat.reduceLeDiff, reduceCtorEq, Int.reduceToNat, Int.reduceLT, Int.reduceLE, Int.reduceEq, Int.reduceNeg, Int.reduceBEq, Int.reduceBNe, String.reduceEq, forall_const, ↓vmDA, vmVA, ↓vmQA, vmR, vmRA, ↓vmSA, vmSV, tyS, nuE, slIndexByte_v, indexByte_v, indexRune_v, containsRune_v, classOf_v, isWordByte_v, letter_v, digit_v, wordAt_v, rword_v, isName_v, risName_v, recId_v, authId_v, rId13_v, rId27_v, moneyCur_v, authCur_v, rCur27_v, rCur01_v, isPart_v, authCheck_v, inTotal_v, rwithin1_v, exCard_v, recCheck_v, rrecCheck_v, within27_v, rauthCheck_v, fundsA_v, settledA_v, state27A_v, authOpen_v, rauthOpen_v, authUsable_v, rauthUsable_v, authClear_v, rauthClear_v, tolValid_v, rtolValid_v, allowed_v, rallowed_v, checkPres_v, rable_v, apply_v, rapply_v, present_v, awake_v, short35_v, short32_v, applies_v, conserves_v, ht, hRl, jl]
    obtain ⟨e, l, he, h3⟩ : ∃ (e : Nat) (l : List Rj), e = 0 ∧ l = J.drop e := ⟨0, J, rfl, by simp⟩
    rw [show (9, some (Value.int .i64 0)) = (9, some (Value.int .i64 (e : Int))) by rw [he]; rfl]
    clear he nuE fr hB hC hS1
    induction l generalizing e with
    | cons x l ih =>
      obtain ⟨ha, hl2, h3'⟩ := drop_some h3
      have hlt : ((e : Int) < (J.length : Int)) = True := by simp; omega
      have we : IntKind.i64.wrap ((e : Int) + 1) = ((e + 1 : Nat) : Int) := by rw [w_i64 (by omega) (by omega)]; omega
      obtain ⟨b, off, cs, ty, fr0, hp0, hb, hc, hcc⟩ := hT1.at ha
      obtain ⟨m, r, i1, i2, i3, i4⟩ := rej_at tb tf rs 0 L e x (by rw [hJe]; exact ha)
      obtain ⟨b2, off2, cs2, ty2, fr2, hp1, hb2, hc2, hcc2⟩ := hR.at i2
      have hb2 := sA1 _ _ hb2
      subst hp0
      subst hp1
      have c0 : cs[off + e * 3]? = some (.int .i64 (m : Int)) := by have := hcc 0 _ rfl; rw [i1] at this; simpa using this
      have c1 : cs[off + e * 3 + 1]? = some (.string x.id) := by simpa using hcc 1 _ rfl
      have c2 : cs[off + e * 3 + 2]? = some (.int .i64 x.co) := by simpa using hcc 2 _ rfl
      have d1 : cs2[off2 + m * 12 + 1]? = some (.string r.rid) := by simpa using hcc2 1 _ rfl
      have ml : m < rs.length := (List.getElem?_eq_some_iff.1 i2).1
      have m0 : ((m : Int) < 0) = False := by simp
      have m1 : ((rs.length : Int) ≤ (m : Int)) = False := by simp; omega
      have m2 : ((m : Int) < (rs.length : Int)) = True := by simp; omega
      refine LoopA.intro (by kernel_rfl) ?_
      intro ν fr; have nuE := fr.nu
      have i3' : (x.id.toList == r.rid.toList) = true := by rw [i3]; simp
      by_cases he0 : e = 0
      · have hg : (0 < (e : Int)) = False := by simp; omega
        simp (maxDischargeDepth := 16) only [argE_nil, argE_cons, ↓vmD, vmV, vmStd, Nat.reduceMul, ↓reduceIte, Nat.reduceAdd, Nat.reduceSub, Nat.reduceEqDiff, Nat.reduceLT, Nat.reduceLeDiff, reduceCtorEq, Int.reduceToNat, Int.reduceLT, Int.reduceLE, Int.reduceEq, Int.reduceNeg, Int.reduceBEq, Int.reduceBNe, String.reduceEq, forall_const, ↓vmDA, vmVA, ↓vmQA, vmR, vmRA, ↓vmSA, vmSV, tyS, nuE, SubA.skip, SubA.refl, fr.2, slIndexByte_v, indexByte_v, indexRune_v, containsRune_v, classOf_v, isWordByte_v, letter_v, digit_v, wordAt_v, rword_v, isName_v, risName_v, recId_v, authId_v, rId13_v, rId27_v, moneyCur_v, authCur_v, rCur27_v, rCur01_v, isPart_v, authCheck_v, inTotal_v, rwithin1_v, exCard_v, recCheck_v, rrecCheck_v, within27_v, rauthCheck_v, fundsA_v, settledA_v, state27A_v, authOpen_v, rauthOpen_v, authUsable_v, rauthUsable_v, authClear_v, rauthClear_v, tolValid_v, rtolValid_v, allowed_v, rallowed_v, checkPres_v, rable_v, apply_v, rapply_v, present_v, awake_v, short35_v, short32_v, applies_v, conserves_v, hlt, hb, c0, c1, c2, hb2, d1, i3', i4, m0, m1, m2, we, hg]
        exact LoopA.weak (ih (e + 1) h3') (by simp only [subE, get_cons, Nat.reduceEqDiff, ↓reduceIte, reduceCtorEq, Nat.reduceAdd, and_self, and_true]) (SubA.refl _)
      · have hg : (0 < (e : Int)) = True := by simp; omega
        obtain ⟨y, hy⟩ : ∃ y, J[e - 1]? = some y := ⟨J[e - 1], List.getElem?_eq_getElem (by omega)⟩
        have up := rej_up tb tf rs 0 L (e - 1) y x (by rw [hJe]; exact hy) (by rw [hJe, show e - 1 + 1 = e by omega]; exact ha)
        obtain ⟨b3, off3, cs3, ty3, fr3, hp3, hb3, hc3, hcc3⟩ := hT1.at hy
        cases hp3
        rw [hb] at hb3
        cases hb3
        have y0 : cs[off + (e - 1) * 3]? = some (.int .i64 y.ix) := by simpa using hcc3 0 _ rfl
        have w1 : IntKind.i64.wrap ((e : Int) - 1) = ((e - 1 : Nat) : Int) := by rw [w_i64 (by omega) (by omega)]; omega
        have l1 : (((e - 1 : Nat) : Int) < (J.length : Int)) = True := by simp; omega
        have l2 : ((m : Int) ≤ y.ix) = False := by simp; omega
        simp (maxDischargeDepth := 16) only [argE_nil, argE_cons, ↓vmD, vmV, vmStd, Nat.reduceMul, ↓reduceIte, Nat.reduceAdd, Nat.reduceSub, Nat.reduceEqDiff, Nat.reduceLT, Nat.reduceLeDiff, reduceCtorEq, Int.reduceToNat, Int.reduceLT, Int.reduceLE, Int.reduceEq, Int.reduceNeg, Int.reduceBEq, Int.reduceBNe, String.reduceEq, forall_const, ↓vmDA, vmVA, ↓vmQA, vmR, vmRA, ↓vmSA, vmSV, tyS, nuE, SubA.skip, SubA.refl, fr.2, slIndexByte_v, indexByte_v, indexRune_v, containsRune_v, classOf_v, isWordByte_v, letter_v, digit_v, wordAt_v, rword_v, isName_v, risName_v, recId_v, authId_v, rId13_v, rId27_v, moneyCur_v, authCur_v, rCur27_v, rCur01_v, isPart_v, authCheck_v, inTotal_v, rwithin1_v, exCard_v, recCheck_v, rrecCheck_v, within27_v, rauthCheck_v, fundsA_v, settledA_v, state27A_v, authOpen_v, rauthOpen_v, authUsable_v, rauthUsable_v, authClear_v, rauthClear_v, tolValid_v, rtolValid_v, allowed_v, rallowed_v, checkPres_v, rable_v, apply_v, rapply_v, present_v, awake_v, short35_v, short32_v, applies_v, conserves_v, hlt, hb, c0, c1, c2, hb2, d1, i3', i4, m0, m1, m2, we, hg, y0, w1, l1, l2]
        exact LoopA.weak (ih (e + 1) h3') (by simp only [subE, get_cons, Nat.reduceEqDiff, ↓reduceIte, reduceCtorEq, Nat.reduceAdd, and_self, and_true]) (SubA.refl _)
    | nil =>
      have hle := drop_nil h3
      have hlt : ((e : Int) < (J.length : Int)) = False := by simp; omega
      refine LoopA.intro (by kernel_rfl) ?_
      intro ν fr; have nuE := fr.nu
      simp (maxDischargeDepth := 16) only [argE_nil, argE_cons, ↓vmD, vmV, vmStd, Nat.reduceMul, ↓reduceIte, Nat.reduceAdd, Nat.reduceSub, Nat.reduceEqDiff, Nat.reduceLT, Nat.reduceLeDiff, reduceCtorEq, Int.reduceToNat, Int.reduceLT, Int.reduceLE, Int.reduceEq, Int.reduceNeg, Int.reduceBEq, Int.reduceBNe, String.reduceEq, forall_const, ↓vmDA, vmVA, ↓vmQA, vmR, vmRA, ↓vmSA, vmSV, tyS, nuE, SubA.skip, SubA.refl, fr.2, slIndexByte_v, indexByte_v, indexRune_v, containsRune_v, classOf_v, isWordByte_v, letter_v, digit_v, wordAt_v, rword_v, isName_v, risName_v, recId_v, authId_v, rId13_v, rId27_v, moneyCur_v, authCur_v, rCur27_v, rCur01_v, isPart_v, authCheck_v, inTotal_v, rwithin1_v, exCard_v, recCheck_v, rrecCheck_v, within27_v, rauthCheck_v, fundsA_v, settledA_v, state27A_v, authOpen_v, rauthOpen_v, authUsable_v, rauthUsable_v, authClear_v, rauthClear_v, tolValid_v, rtolValid_v, allowed_v, rallowed_v, checkPres_v, rable_v, apply_v, rapply_v, present_v, awake_v, short35_v, short32_v, applies_v, conserves_v, hlt, sc_au0]
      have sA0 : SubA A1 ((ν 0, .cells #[] 23) :: A1) := SubA.skip (fr.2 0) (SubA.refl _)
      refine append_src (news := L.flatMap Au.cells) slc47 zro23 rfl (by decide) (OwnL.at0 Au.cells 10 23 (ν 0)) (SubE.sub ⟨by simp [Vm.look], trivial⟩) ((hL.mono sA1).mono sA0).src ?_ (by simp [maxLen]; omega) (by simp; omega) ?_
      · intro u hu
        obtain ⟨a, _, ha⟩ := List.mem_flatMap.1 hu
        simp only [Au.cells, List.mem_cons, List.mem_nil_iff, or_false] at ha
        rcases ha with rfl | rfl | rfl | rfl | rfl | rfl | rfl | rfl | rfl | rfl <;> rfl
      intro v B ho0 hb
      have ho : OwnL Au.cells 10 23 v B L := by simpa [OwnL] using ho0
      have hxB : Dis B A1 := ap_dis hb (Dis.one (fr.2 0)) sA0
      have hDA : SubA A1 (B ++ (ν 0, .cells #[] 23) :: A1) := hxB.sub sA0
      clear ho0 hb sA0
      have fr0 := fr
      intro ν' fr
      have nuE := fr.nu
      simp (maxDischargeDepth := 16) only [argE_nil, argE_cons, ↓vmD, vmV, vmStd, Nat.reduceMul, ↓reduceIte, Nat.reduceAdd, Nat.reduceSub, Nat.reduceEqDiff, Nat.reduceLT, Nat.reduceLeDiff, reduceCtorEq, Int.reduceToNat, Int.reduceLT, Int.reduceLE, Int.reduceEq, Int.reduceNeg, Int.reduceBEq, Int.reduceBNe, String.reduceEq, forall_const, ↓vmDA, vmVA, ↓vmQA, vmR, vmRA, ↓vmSA, vmSV, tyS, nuE, slIndexByte_v, indexByte_v, indexRune_v, containsRune_v, classOf_v, isWordByte_v, letter_v, digit_v, wordAt_v, rword_v, isName_v, risName_v, recId_v, authId_v, rId13_v, rId27_v, moneyCur_v, authCur_v, rCur27_v, rCur01_v, isPart_v, authCheck_v, inTotal_v, rwithin1_v, exCard_v, recCheck_v, rrecCheck_v, within27_v, rauthCheck_v, fundsA_v, settledA_v, state27A_v, authOpen_v, rauthOpen_v, authUsable_v, rauthUsable_v, authClear_v, rauthClear_v, tolValid_v, rtolValid_v, allowed_v, rallowed_v, checkPres_v, rable_v, apply_v, rapply_v, present_v, awake_v, short35_v, short32_v, applies_v, conserves_v]
      obtain ⟨e, l, nx, L1, he, hn, hL1, h3, h4, h5, hl1, hz1⟩ : ∃ (e : Nat) (l : List Rc) (nx : Nat) (L1 : List Au), e = 0 ∧ nx = 0 ∧ L1 = L ∧ l = rs.drop e ∧ J.drop nx = rejF tb tf l e L1 ∧ runL tb tf L rs = runL tb tf L1 l ∧ L1.length = L.length ∧ szL L1 := ⟨0, rs, 0, L, rfl, rfl, rfl, by simp, by simp [hJe], rfl, rfl, hz⟩
      rw [show (12, some (Value.int .i64 0)) = (12, some (Value.int .i64 (e : Int))) by rw [he]; rfl]
      rw [show (10, some (Value.int .i64 0)) = (10, some (Value.int .i64 (nx : Int))) by rw [hn]; rfl]
      rw [← hL1] at ho
      refine LoopA.at (A := B ++ A1) (SubA.both (SubA.left _ _) hDA) ?_
      clear he hn hL1 hDA nuE fr fr0
      induction l generalizing e nx L1 B with
      | nil =>
        have hle := drop_nil h3
        have hlt : ((e : Int) < (rs.length : Int)) = False := by simp; omega
        have e5 : runL tb tf L rs = L1 := h5
        obtain ⟨p2, c2, rfl, _, hS2⟩ := ho.read au_len
        have se := sameEq_v (B ++ A1) L1 p2 p1 c2 c1 (hS2.mono (SubA.left _ _)) ((show StR Au.cells 10 A1 p1 L1 from e5 ▸ hO1).mono hxB.right) (by omega)
        refine LoopA.intro (by kernel_rfl) ?_
        intro ν fr; have nuE := fr.nu
        rw [hl1] at se ⊢
        simp (maxDischargeDepth := 16) only [argE_nil, argE_cons, ↓vmD, vmV, vmStd, Nat.reduceMul, ↓reduceIte, Nat.reduceAdd, Nat.reduceSub, Nat.reduceEqDiff, Nat.reduceLT, Nat.reduceLeDiff, reduceCtorEq, Int.reduceToNat, Int.reduceLT, Int.reduceLE, Int.reduceEq, Int.reduceNeg, Int.reduceBEq, Int.reduceBNe, String.reduceEq, forall_const, ↓vmDA, vmVA, ↓vmQA, vmR, vmRA, ↓vmSA, vmSV, tyS, nuE, SubA.skip, SubA.refl, fr.2, slIndexByte_v, indexByte_v, indexRune_v, containsRune_v, classOf_v, isWordByte_v, letter_v, digit_v, wordAt_v, rword_v, isName_v, risName_v, recId_v, authId_v, rId13_v, rId27_v, moneyCur_v, authCur_v, rCur27_v, rCur01_v, isPart_v, authCheck_v, inTotal_v, rwithin1_v, exCard_v, recCheck_v, rrecCheck_v, within27_v, rauthCheck_v, fundsA_v, settledA_v, state27A_v, authOpen_v, rauthOpen_v, authUsable_v, rauthUsable_v, authClear_v, rauthClear_v, tolValid_v, rtolValid_v, allowed_v, rallowed_v, checkPres_v, rable_v, apply_v, rapply_v, present_v, awake_v, short35_v, short32_v, applies_v, conserves_v, hlt, se]
        exact SubA.trans sA1 hxB.right
      | cons r l ih =>
        obtain ⟨hr, hl2, h3'⟩ := drop_some h3
        have hlt : ((e : Int) < (rs.length : Int)) = True := by simp; omega
        have we : IntKind.i64.wrap ((e : Int) + 1) = ((e + 1 : Nat) : Int) := by rw [w_i64 (by omega) (by omega)]; omega
        obtain ⟨b2, off2, cs2, ty2, fr2, hp1, hb2, hc, hcc2⟩ := hR.at hr
        subst hp1
        have hb2 := sA1 _ _ hb2
        have hb2' : Vm.look (B ++ A1) b2 = some (.cells cs2 ty2 fr2) := hxB.right _ _ hb2
        have ht' : Vm.look (B ++ A1) n0 = some (.cells #[.int .i64 tb, .int .i64 tf] 29) := hxB.right _ _ ht
        have c0 : cs2[off2 + e * 12]? = some (.int .i64 r.kd) := by simpa using hcc2 0 _ rfl
        have c2 : cs2[off2 + e * 12 + 2]? = some (.string r.rau) := by simpa using hcc2 2 _ rfl
        obtain ⟨z1, z2, z3, z4, z5, z6, z7⟩ := hzs r (List.mem_of_getElem? hr)
        have hlp := procL_len L1 r tb tf
        have hzp := procL_sz (r := r) (tb := tb) (tf := tf) hz1
        refine LoopA.intro (by kernel_rfl) ?_
        intro ν fr; have nuE := fr.nu
        by_cases hq : procE L1 r tb tf = 0
        · have h4' : J.drop nx = rejF tb tf l (e + 1) (procL L1 r tb tf) := by rw [h4]; simp only [rejF, hq, if_true]
          by_cases hn : nx < J.length
          · have hn1 : ((nx : Int) < (J.length : Int)) = True := by simp; exact hn
            obtain ⟨x, hx⟩ : ∃ x, J[nx]? = some x := ⟨J[nx], List.getElem?_eq_getElem hn⟩
            obtain ⟨m, r', i1, _⟩ := rej_at tb tf l (e + 1) (procL L1 r tb tf) 0 x (by rw [← h4']; simpa using hx)
            have xe : (x.ix == (e : Int)) = false := by simp; omega
            obtain ⟨b3, off3, cs3, ty3, fr3, hp3, hb3, hc3, hcc3⟩ := hT1.at hx
            subst hp3
            have hb3' : Vm.look (B ++ A1) b3 = some (.cells cs3 ty3 fr3) := hxB.right _ _ hb3
            have x0 : cs3[off3 + nx * 3]? = some (.int .i64 x.ix) := by simpa using hcc3 0 _ rfl
            have hn2 := hn
            by_cases q1 : r.kd = 1
            · have w1 : (r.kd != 1) = false := by simp [q1]
              have q0 : chkQ r = 0 := by
                by_cases q : chkQ r = 0
                · exact q
                · unfold procE at hq; rw [if_pos q] at hq; exact absurd hq q
              have q2 : (matQ L1 r tb tf).2 = 0 := by
                unfold procE at hq; rw [if_neg (by simpa using q0), if_neg (by simpa using q1)] at hq; exact hq
              obtain ⟨i, a, hf, hi, hm, hap, hk⟩ := mat_ok q2
              have hne : L1 ≠ [] := by intro h; rw [h] at hi; cases hi
              obtain ⟨pv, capv, hv, hcv, hLv⟩ := ho.read au_len
              obtain ⟨g, cap2, cur, hv2, rfl, h3_, h4_, h5_, h6_⟩ := ho.blk hne
              rw [hv] at hv2
              cases hv2
              subst hv
              have hlt1 : i < L1.length := (List.getElem?_eq_some_iff.1 hi).1
              obtain ⟨b_, off_, cs_, ty_, fr_, hp_, hb_, hcA, hcA2⟩ := hLv.at hi
              cases hp_
              simp only [Vm.look, if_true, Option.some.injEq, Obj.cells.injEq] at hb_
              obtain ⟨rfl, rfl, rfl⟩ := hb_
              obtain ⟨ho2, hle⟩ := ho.set au_len hlt1 (aftA a r)
              have hza := hz1 a (List.mem_of_getElem? hi)
              have mt := mtchR_w [(g, Obj.cells cur 23)] L1 (some ⟨g, 0, none⟩) capv hLv (by omega) r.kd r.rid r.rau r.aq r.is r.me r.ca r.am r.rcu r.da r.ct r.fi tb tf z1 z2 z3 z4 z5 z6 z7 hz1
              have mv : matV L1 r.kd r.rid r.rau r.aq r.is r.me r.ca r.am r.rcu r.da r.ct r.fi tb tf = .tuple #[.int .i64 (matQ L1 r tb tf).1, .int .i64 (matQ L1 r tb tf).2] := rfl
              have ap := apply_v a.id a.cu a.ap a.rv a.cl a.ex a.st a.atT a.un a.pa r.kd r.rid r.rau r.aq r.is r.me r.ca r.am r.rcu r.da r.ct r.fi tb tf hza.1 hza.2 z1 z2 z3 z4 z5 z6 z7
              have ap0 := hap
              unfold appEA at ap0
              obtain ⟨y0, y1, y2, y3, y4, y5, y6, y7⟩ := app_out ap0
              have y8 := y1
              rw [y4] at y8
              obtain ⟨qr, qk, qt⟩ := tolB_of y0
              obtain ⟨_, _, _, _, qam, _⟩ := chkR_zero qr
              obtain ⟨n1, n2, n3, n4, n5⟩ := app_next (fi := r.fi) y8 y5 qam
              have hO : openG a.id a.cu a.ap a.rv a.cl a.ex a.st a.atT a.un a.pa = a.ap - a.rv - a.cl - a.ex := by simp only [openG, y1, if_true]
              have hO2 : openG a.id a.cu a.ap (a.rv + relG (a.ap - a.rv - a.cl - a.ex) r.am r.fi) (a.cl + min r.am (a.ap - a.rv - a.cl - a.ex)) a.ex (stF (a.ap - a.rv - a.cl - a.ex - min r.am (a.ap - a.rv - a.cl - a.ex) - relG (a.ap - a.rv - a.cl - a.ex) r.am r.fi) a.ex (a.cl + min r.am (a.ap - a.rv - a.cl - a.ex))) a.atT a.un (a.pa + 1) = a.ap - (a.rv + relG (a.ap - a.rv - a.cl - a.ex) r.am r.fi) - (a.cl + min r.am (a.ap - a.rv - a.cl - a.ex)) - a.ex := by simp only [openG, n1, if_true]
              have hrg := (chk_zero y1).2.2.1
              obtain ⟨r1, r2, r3, r4⟩ := (show _ from hrg)
              have a1 : IntKind.i64.wrap (a.ap - a.rv - a.cl - a.ex - (a.ap - (a.rv + relG (a.ap - a.rv - a.cl - a.ex) r.am r.fi) - (a.cl + min r.am (a.ap - a.rv - a.cl - a.ex)) - a.ex)) = min r.am (a.ap - a.rv - a.cl - a.ex) + relG (a.ap - a.rv - a.cl - a.ex) r.am r.fi := by rw [w_i64 (by omega) (by omega)]; omega
              have a2 : IntKind.i64.wrap (min r.am (a.ap - a.rv - a.cl - a.ex) + relG (a.ap - a.rv - a.cl - a.ex) r.am r.fi) = min r.am (a.ap - a.rv - a.cl - a.ex) + relG (a.ap - a.rv - a.cl - a.ex) r.am r.fi := w_i64 (by omega) (by omega)
              have gb3 := look_ne (hxB b3 (by rw [hb3]; simp)) (show Vm.look [(g, Obj.cells cur 23)] g = some (Obj.cells cur 23) by simp [Vm.look])
              have nb3 := fr.ne (b := b3) (by rw [hb3']; simp)
              have nb := fr.ne (b := b2) (by rw [hb2']; simp)
              have nt := fr.ne (b := n0) (by rw [ht']; simp)
              have ng := fr.ne (b := g) (by simp [Vm.look])
              have gb := look_ne (hxB b2 (by rw [hb2]; simp)) (show Vm.look [(g, Obj.cells cur 23)] g = some (Obj.cells cur 23) by simp [Vm.look])
              have gn := look_ne (hxB n0 (by rw [ht]; simp)) (show Vm.look [(g, Obj.cells cur 23)] g = some (Obj.cells cur 23) by simp [Vm.look])
              have hlt1' : ((i : Int) < (L1.length : Int)) = True := by simp; exact hlt1
              have hle1' : ((L1.length : Int) ≤ (i : Int)) = False := by simp; omega
              have i0 : ((i : Int) < 0) = False := by simp
              have hle2 : i * 10 + 10 ≤ cur.size := hle
              have hk2 : (a.id.toList == r.rau.toList) = true := by rw [hk]; simp
              have hcI : cur[i * 10]? = some (.string a.id) := by simpa using hcA2 0 _ rfl
              simp only [Nat.zero_add] at hcA
              have sg : SubA [(g, Obj.cells cur 23)] ((g, Obj.cells cur 23) :: A1) := SubA.left [(g, Obj.cells cur 23)] A1
              simp only [List.cons_append, List.nil_append] at fr ⊢
              simp (maxDischargeDepth := 16) only [argE_nil, argE_cons, ↓vmD, vmV, vmStd, Nat.reduceMul, ↓reduceIte, Nat.reduceAdd, Nat.reduceSub, Nat.reduceEqDiff, Nat.reduceLT, Nat.reduceLeDiff, reduceCtorEq, Int.reduceToNat, Int.reduceLT, Int.reduceLE, Int.reduceEq, Int.reduceNeg, Int.reduceBEq, Int.reduceBNe, String.reduceEq, forall_const, ↓vmDA, vmVA, ↓vmQA, vmR, vmRA, ↓vmSA, vmSV, tyS, nuE, SubA.skip, SubA.refl, fr.2, slIndexByte_v, indexByte_v, indexRune_v, containsRune_v, classOf_v, isWordByte_v, letter_v, digit_v, wordAt_v, rword_v, isName_v, risName_v, recId_v, authId_v, rId13_v, rId27_v, moneyCur_v, authCur_v, rCur27_v, rCur01_v, isPart_v, authCheck_v, inTotal_v, rwithin1_v, exCard_v, recCheck_v, rrecCheck_v, within27_v, rauthCheck_v, fundsA_v, settledA_v, state27A_v, authOpen_v, rauthOpen_v, authUsable_v, rauthUsable_v, authClear_v, rauthClear_v, tolValid_v, rtolValid_v, allowed_v, rallowed_v, checkPres_v, rable_v, apply_v, rapply_v, present_v, awake_v, short35_v, short32_v, applies_v, conserves_v, hlt, hn1, xe, hb3, gb3, nb3, x0, c0, c2, hc, hb2, ht, gb, gn, ng, nb, nt, z1, z2, z3, z4, z5, z6, z7, w1, mt, mv, hm, sg, hza, hlt1, hlt1', hle1', i0, hcA, hcI, hk2, au_agg, rc_agg, ap, appV, ap0, appO, Nat.zero_add, hle2, hO, hO2, a1, a2, we]
              have eL : procL L1 r tb tf = L1.set i (aftA a r) := by unfold procL; rw [if_neg (by simpa using q0), if_neg (by simpa using q1), if_neg (by simpa using q2), hf]
              exact LoopA.weak (ih [(g, .cells (splice cur (i * 10) (Au.cells (aftA a r))) 23)] (dis_same hxB) (e + 1) nx (procL L1 r tb tf) (by rw [eL]; exact ho2) h3' h4' (by rw [h5]; rfl) (by omega) hzp) (by simp only [subE, get_cons, Nat.reduceEqDiff, ↓reduceIte, reduceCtorEq, Nat.reduceAdd, and_self, and_true]) (SubA.skip (look_same (fr.2 0)) (SubA.refl _))
            · have w1 : (r.kd != 1) = true := by simp [q1]
              have eL : procL L1 r tb tf = L1 := by
                unfold procL
                by_cases hc0 : chkQ r ≠ 0
                · rw [if_pos hc0]
                · rw [if_neg hc0, if_pos q1]
              simp (maxDischargeDepth := 16) only [argE_nil, argE_cons, ↓vmD, vmV, vmStd, Nat.reduceMul, ↓reduceIte, Nat.reduceAdd, Nat.reduceSub, Nat.reduceEqDiff, Nat.reduceLT, Nat.reduceLeDiff, reduceCtorEq, Int.reduceToNat, Int.reduceLT, Int.reduceLE, Int.reduceEq, Int.reduceNeg, Int.reduceBEq, Int.reduceBNe, String.reduceEq, forall_const, ↓vmDA, vmVA, ↓vmQA, vmR, vmRA, ↓vmSA, vmSV, tyS, nuE, SubA.skip, SubA.refl, fr.2, slIndexByte_v, indexByte_v, indexRune_v, containsRune_v, classOf_v, isWordByte_v, letter_v, digit_v, wordAt_v, rword_v, isName_v, risName_v, recId_v, authId_v, rId13_v, rId27_v, moneyCur_v, authCur_v, rCur27_v, rCur01_v, isPart_v, authCheck_v, inTotal_v, rwithin1_v, exCard_v, recCheck_v, rrecCheck_v, within27_v, rauthCheck_v, fundsA_v, settledA_v, state27A_v, authOpen_v, rauthOpen_v, authUsable_v, rauthUsable_v, authClear_v, rauthClear_v, tolValid_v, rtolValid_v, allowed_v, rallowed_v, checkPres_v, rable_v, apply_v, rapply_v, present_v, awake_v, short35_v, short32_v, applies_v, conserves_v, hlt, hn1, xe, hb3', x0, c0, hb2', w1, we]
              exact LoopA.weak (ih B hxB (e + 1) nx L1 ho h3' (by rw [h4', eL]) (by rw [h5]; show runL tb tf (procL L1 r tb tf) l = _; rw [eL]) hl1 hz1) (by simp only [subE, get_cons, Nat.reduceEqDiff, ↓reduceIte, reduceCtorEq, Nat.reduceAdd, and_self, and_true]) (SubA.refl _)
          · have hn1 : ((nx : Int) < (J.length : Int)) = False := by simp; omega
            by_cases q1 : r.kd = 1
            · have w1 : (r.kd != 1) = false := by simp [q1]
              have q0 : chkQ r = 0 := by
                by_cases q : chkQ r = 0
                · exact q
                · unfold procE at hq; rw [if_pos q] at hq; exact absurd hq q
              have q2 : (matQ L1 r tb tf).2 = 0 := by
                unfold procE at hq; rw [if_neg (by simpa using q0), if_neg (by simpa using q1)] at hq; exact hq
              obtain ⟨i, a, hf, hi, hm, hap, hk⟩ := mat_ok q2
              have hne : L1 ≠ [] := by intro h; rw [h] at hi; cases hi
              obtain ⟨pv, capv, hv, hcv, hLv⟩ := ho.read au_len
              obtain ⟨g, cap2, cur, hv2, rfl, h3_, h4_, h5_, h6_⟩ := ho.blk hne
              rw [hv] at hv2
              cases hv2
              subst hv
              have hlt1 : i < L1.length := (List.getElem?_eq_some_iff.1 hi).1
              obtain ⟨b_, off_, cs_, ty_, fr_, hp_, hb_, hcA, hcA2⟩ := hLv.at hi
              cases hp_
              simp only [Vm.look, if_true, Option.some.injEq, Obj.cells.injEq] at hb_
              obtain ⟨rfl, rfl, rfl⟩ := hb_
              obtain ⟨ho2, hle⟩ := ho.set au_len hlt1 (aftA a r)
              have hza := hz1 a (List.mem_of_getElem? hi)
              have mt := mtchR_w [(g, Obj.cells cur 23)] L1 (some ⟨g, 0, none⟩) capv hLv (by omega) r.kd r.rid r.rau r.aq r.is r.me r.ca r.am r.rcu r.da r.ct r.fi tb tf z1 z2 z3 z4 z5 z6 z7 hz1
              have mv : matV L1 r.kd r.rid r.rau r.aq r.is r.me r.ca r.am r.rcu r.da r.ct r.fi tb tf = .tuple #[.int .i64 (matQ L1 r tb tf).1, .int .i64 (matQ L1 r tb tf).2] := rfl
              have ap := apply_v a.id a.cu a.ap a.rv a.cl a.ex a.st a.atT a.un a.pa r.kd r.rid r.rau r.aq r.is r.me r.ca r.am r.rcu r.da r.ct r.fi tb tf hza.1 hza.2 z1 z2 z3 z4 z5 z6 z7
              have ap0 := hap
              unfold appEA at ap0
              obtain ⟨y0, y1, y2, y3, y4, y5, y6, y7⟩ := app_out ap0
              have y8 := y1
              rw [y4] at y8
              obtain ⟨qr, qk, qt⟩ := tolB_of y0
              obtain ⟨_, _, _, _, qam, _⟩ := chkR_zero qr
              obtain ⟨n1, n2, n3, n4, n5⟩ := app_next (fi := r.fi) y8 y5 qam
              have hO : openG a.id a.cu a.ap a.rv a.cl a.ex a.st a.atT a.un a.pa = a.ap - a.rv - a.cl - a.ex := by simp only [openG, y1, if_true]
              have hO2 : openG a.id a.cu a.ap (a.rv + relG (a.ap - a.rv - a.cl - a.ex) r.am r.fi) (a.cl + min r.am (a.ap - a.rv - a.cl - a.ex)) a.ex (stF (a.ap - a.rv - a.cl - a.ex - min r.am (a.ap - a.rv - a.cl - a.ex) - relG (a.ap - a.rv - a.cl - a.ex) r.am r.fi) a.ex (a.cl + min r.am (a.ap - a.rv - a.cl - a.ex))) a.atT a.un (a.pa + 1) = a.ap - (a.rv + relG (a.ap - a.rv - a.cl - a.ex) r.am r.fi) - (a.cl + min r.am (a.ap - a.rv - a.cl - a.ex)) - a.ex := by simp only [openG, n1, if_true]
              have hrg := (chk_zero y1).2.2.1
              obtain ⟨r1, r2, r3, r4⟩ := (show _ from hrg)
              have a1 : IntKind.i64.wrap (a.ap - a.rv - a.cl - a.ex - (a.ap - (a.rv + relG (a.ap - a.rv - a.cl - a.ex) r.am r.fi) - (a.cl + min r.am (a.ap - a.rv - a.cl - a.ex)) - a.ex)) = min r.am (a.ap - a.rv - a.cl - a.ex) + relG (a.ap - a.rv - a.cl - a.ex) r.am r.fi := by rw [w_i64 (by omega) (by omega)]; omega
              have a2 : IntKind.i64.wrap (min r.am (a.ap - a.rv - a.cl - a.ex) + relG (a.ap - a.rv - a.cl - a.ex) r.am r.fi) = min r.am (a.ap - a.rv - a.cl - a.ex) + relG (a.ap - a.rv - a.cl - a.ex) r.am r.fi := w_i64 (by omega) (by omega)
              have nb := fr.ne (b := b2) (by rw [hb2']; simp)
              have nt := fr.ne (b := n0) (by rw [ht']; simp)
              have ng := fr.ne (b := g) (by simp [Vm.look])
              have gb := look_ne (hxB b2 (by rw [hb2]; simp)) (show Vm.look [(g, Obj.cells cur 23)] g = some (Obj.cells cur 23) by simp [Vm.look])
              have gn := look_ne (hxB n0 (by rw [ht]; simp)) (show Vm.look [(g, Obj.cells cur 23)] g = some (Obj.cells cur 23) by simp [Vm.look])
              have hlt1' : ((i : Int) < (L1.length : Int)) = True := by simp; exact hlt1
              have hle1' : ((L1.length : Int) ≤ (i : Int)) = False := by simp; omega
              have i0 : ((i : Int) < 0) = False := by simp
              have hle2 : i * 10 + 10 ≤ cur.size := hle
              have hk2 : (a.id.toList == r.rau.toList) = true := by rw [hk]; simp
              have hcI : cur[i * 10]? = some (.string a.id) := by simpa using hcA2 0 _ rfl
              simp only [Nat.zero_add] at hcA
              have sg : SubA [(g, Obj.cells cur 23)] ((g, Obj.cells cur 23) :: A1) := SubA.left [(g, Obj.cells cur 23)] A1
              simp only [List.cons_append, List.nil_append] at fr ⊢
              simp (maxDischargeDepth := 16) only [argE_nil, argE_cons, ↓vmD, vmV, vmStd, Nat.reduceMul, ↓reduceIte, Nat.reduceAdd, Nat.reduceSub, Nat.reduceEqDiff, Nat.reduceLT, Nat.reduceLeDiff, reduceCtorEq, Int.reduceToNat, Int.reduceLT, Int.reduceLE, Int.reduceEq, Int.reduceNeg, Int.reduceBEq, Int.reduceBNe, String.reduceEq, forall_const, ↓vmDA, vmVA, ↓vmQA, vmR, vmRA, ↓vmSA, vmSV, tyS, nuE, SubA.skip, SubA.refl, fr.2, slIndexByte_v, indexByte_v, indexRune_v, containsRune_v, classOf_v, isWordByte_v, letter_v, digit_v, wordAt_v, rword_v, isName_v, risName_v, recId_v, authId_v, rId13_v, rId27_v, moneyCur_v, authCur_v, rCur27_v, rCur01_v, isPart_v, authCheck_v, inTotal_v, rwithin1_v, exCard_v, recCheck_v, rrecCheck_v, within27_v, rauthCheck_v, fundsA_v, settledA_v, state27A_v, authOpen_v, rauthOpen_v, authUsable_v, rauthUsable_v, authClear_v, rauthClear_v, tolValid_v, rtolValid_v, allowed_v, rallowed_v, checkPres_v, rable_v, apply_v, rapply_v, present_v, awake_v, short35_v, short32_v, applies_v, conserves_v, hlt, hn1, c0, c2, hc, hb2, ht, gb, gn, ng, nb, nt, z1, z2, z3, z4, z5, z6, z7, w1, mt, mv, hm, sg, hza, hlt1, hlt1', hle1', i0, hcA, hcI, hk2, au_agg, rc_agg, ap, appV, ap0, appO, Nat.zero_add, hle2, hO, hO2, a1, a2, we]
              have eL : procL L1 r tb tf = L1.set i (aftA a r) := by unfold procL; rw [if_neg (by simpa using q0), if_neg (by simpa using q1), if_neg (by simpa using q2), hf]
              exact LoopA.weak (ih [(g, .cells (splice cur (i * 10) (Au.cells (aftA a r))) 23)] (dis_same hxB) (e + 1) nx (procL L1 r tb tf) (by rw [eL]; exact ho2) h3' h4' (by rw [h5]; rfl) (by omega) hzp) (by simp only [subE, get_cons, Nat.reduceEqDiff, ↓reduceIte, reduceCtorEq, Nat.reduceAdd, and_self, and_true]) (SubA.skip (look_same (fr.2 0)) (SubA.refl _))
            · have w1 : (r.kd != 1) = true := by simp [q1]
              have eL : procL L1 r tb tf = L1 := by
                unfold procL
                by_cases hc0 : chkQ r ≠ 0
                · rw [if_pos hc0]
                · rw [if_neg hc0, if_pos q1]
              simp (maxDischargeDepth := 16) only [argE_nil, argE_cons, ↓vmD, vmV, vmStd, Nat.reduceMul, ↓reduceIte, Nat.reduceAdd, Nat.reduceSub, Nat.reduceEqDiff, Nat.reduceLT, Nat.reduceLeDiff, reduceCtorEq, Int.reduceToNat, Int.reduceLT, Int.reduceLE, Int.reduceEq, Int.reduceNeg, Int.reduceBEq, Int.reduceBNe, String.reduceEq, forall_const, ↓vmDA, vmVA, ↓vmQA, vmR, vmRA, ↓vmSA, vmSV, tyS, nuE, SubA.skip, SubA.refl, fr.2, slIndexByte_v, indexByte_v, indexRune_v, containsRune_v, classOf_v, isWordByte_v, letter_v, digit_v, wordAt_v, rword_v, isName_v, risName_v, recId_v, authId_v, rId13_v, rId27_v, moneyCur_v, authCur_v, rCur27_v, rCur01_v, isPart_v, authCheck_v, inTotal_v, rwithin1_v, exCard_v, recCheck_v, rrecCheck_v, within27_v, rauthCheck_v, fundsA_v, settledA_v, state27A_v, authOpen_v, rauthOpen_v, authUsable_v, rauthUsable_v, authClear_v, rauthClear_v, tolValid_v, rtolValid_v, allowed_v, rallowed_v, checkPres_v, rable_v, apply_v, rapply_v, present_v, awake_v, short35_v, short32_v, applies_v, conserves_v, hlt, hn1, c0, hb2', w1, we]
              exact LoopA.weak (ih B hxB (e + 1) nx L1 ho h3' (by rw [h4', eL]) (by rw [h5]; show runL tb tf (procL L1 r tb tf) l = _; rw [eL]) hl1 hz1) (by simp only [subE, get_cons, Nat.reduceEqDiff, ↓reduceIte, reduceCtorEq, Nat.reduceAdd, and_self, and_true]) (SubA.refl _)
        · have eL := procL_rej hq
          have h4' : J.drop nx = ⟨e, r.rid, procE L1 r tb tf⟩ :: rejF tb tf l (e + 1) (procL L1 r tb tf) := by rw [h4]; simp only [rejF, hq, if_false]
          obtain ⟨hx, hn, h4''⟩ := drop_some h4'.symm
          have hn1 : ((nx : Int) < (J.length : Int)) = True := by simp; exact hn
          obtain ⟨b3, off3, cs3, ty3, fr3, hp3, hb3, hc3, hcc3⟩ := hT1.at hx
          subst hp3
          have hb3' : Vm.look (B ++ A1) b3 = some (.cells cs3 ty3 fr3) := hxB.right _ _ hb3
          have x0 : cs3[off3 + nx * 3]? = some (.int .i64 (e : Int)) := by simpa using hcc3 0 _ rfl
          have wn : IntKind.i64.wrap ((nx : Int) + 1) = ((nx + 1 : Nat) : Int) := by rw [w_i64 (by omega) (by omega)]; omega
          simp (maxDischargeDepth := 16) only [argE_nil, argE_cons, ↓vmD, vmV, vmStd, Nat.reduceMul, ↓reduceIte, Nat.reduceAdd, Nat.reduceSub, Nat.reduceEqDiff, Nat.reduceLT, Nat.reduceLeDiff, reduceCtorEq, Int.reduceToNat, Int.reduceLT, Int.reduceLE, Int.reduceEq, Int.reduceNeg, Int.reduceBEq, Int.reduceBNe, String.reduceEq, forall_const, ↓vmDA, vmVA, ↓vmQA, vmR, vmRA, ↓vmSA, vmSV, tyS, nuE, SubA.skip, SubA.refl, fr.2, slIndexByte_v, indexByte_v, indexRune_v, containsRune_v, classOf_v, isWordByte_v, letter_v, digit_v, wordAt_v, rword_v, isName_v, risName_v, recId_v, authId_v, rId13_v, rId27_v, moneyCur_v, authCur_v, rCur27_v, rCur01_v, isPart_v, authCheck_v, inTotal_v, rwithin1_v, exCard_v, recCheck_v, rrecCheck_v, within27_v, rauthCheck_v, fundsA_v, settledA_v, state27A_v, authOpen_v, rauthOpen_v, authUsable_v, rauthUsable_v, authClear_v, rauthClear_v, tolValid_v, rtolValid_v, allowed_v, rallowed_v, checkPres_v, rable_v, apply_v, rapply_v, present_v, awake_v, short35_v, short32_v, applies_v, conserves_v, hlt, hn1, hb3', x0, wn, we]
          exact LoopA.weak (ih B hxB (e + 1) (nx + 1) L1 ho h3' (by rw [← h4'', eL]) (by rw [h5]; show runL tb tf (procL L1 r tb tf) l = _; rw [eL]) hl1 hz1) (by simp only [subE, get_cons, Nat.reduceEqDiff, ↓reduceIte, reduceCtorEq, Nat.reduceAdd, and_self, and_true]) (SubA.refl _)
theorem totals_w (A : AH) (L : List Au) (p : Option Addr) (cap : Nat) (rs : List Rc) (q : Option Addr) (cq : Nat) (hL : StR Au.cells 10 A p L) (hR : StR Rc.cells 12 A q rs) (tb tf : Int) (B_ : AH) (hB_ : SubA A B_) : valA Try.prog 6 #[.slice p L.length cap, .slice q rs.length cq, .agg #[.int .i64 tb, .int .i64 tf]] B_ = some (.bool true) := valA_eq (pureA_at (by kernel_rfl) (totals_h A L p cap rs q cq hL hR tb tf) hB_)
theorem totals_v (A : AH) (L : List Au) (p : Option Addr) (cap : Nat) (rs : List Rc) (q : Option Addr) (cq : Nat) (hL : StR Au.cells 10 A p L) (hR : StR Rc.cells 12 A q rs) (tb tf : Int) : valA Try.prog 6 #[.slice p L.length cap, .slice q rs.length cq, .agg #[.int .i64 tb, .int .i64 tf]] A = some (.bool true) := valA_eq (pureA_at (by kernel_rfl) (totals_h A L p cap rs q cq hL hR tb tf) (SubA.refl _))
theorem totals_walk (h : Heap) (a0 : Option Addr) (len0 cap0 : Nat) (w0 : Vm.Fits h (.sl 10 (.st 10 [(0, 1, .str), (1, 1, .str), (2, 1, .int .i64), (3, 1, .int .i64), (4, 1, .int .i64), (5, 1, .int .i64), (6, 1, .int .i64), (7, 1, .int .i64), (8, 1, .int .i64), (9, 1, .int .i64)])) [.slice a0 len0 cap0]) (a1 : Option Addr) (len1 cap1 : Nat) (w1 : Vm.Fits h (.sl 12 (.st 12 [(0, 1, .int .i64), (1, 1, .str), (2, 1, .str), (3, 1, .str), (4, 1, .str), (5, 1, .str), (6, 1, .str), (7, 2, .st 2 [(0, 1, .int .i64), (1, 1, .str)]), (9, 1, .int .i64), (10, 1, .int .i64), (11, 1, .bool)])) [.slice a1 len1 cap1]) (t : Array Value) (wt : Fits h (.st 2 [(0, 1, .int .i64), (1, 1, .int .i64)]) t.toList) :
    CallsH Try.prog 6 #[.slice a0 len0 cap0, .slice a1 len1 cap1, .agg t] h fun e h' => e = .returned (.bool true) ∧ Grew h h' := by
  obtain ⟨tb, tf, rfl⟩ := fitsT wt
  obtain ⟨A, L, rs, hA, hL, hR, rfl, rfl⟩ := args35 w0 w1
  exact callsH_of_pure (totals_v A L a0 cap0 rs a1 cap1 hL hR tb tf) (by kernel_rfl) hA
end Go.Proofs.Ythahheeahdhepaa
