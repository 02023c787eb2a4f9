/-
Matching: Match and Unmatched at slices that came in, wherever they lie.
Conditions: none.
-/
import Derived.Test.YthahheeahdhepaaVmAL
import Derived.Test.YthahheeahdhepaaSam
namespace Go.Proofs.Ythahheeahdhepaa
open Go.Vm
set_option linter.unusedSimpArgs false
set_option linter.unusedVariables false
set_option maxHeartbeats 2000000
set_option maxRecDepth 20000
theorem findF_mem {key : List UInt8} {L : List Au} {i : Nat} {a : Au} (h : findF key L 0 = some (i, a)) : L[i]? = some a ∧ a.id.toList = key := by
  obtain ⟨_, ⟨k, h2, h3⟩, h4⟩ := find_some h
  have : i = k := by omega
  subst this
  exact ⟨h3, h4⟩
theorem indexFuncR_h (A : AH) (L : List Au) (p : Option Addr) (cap : Nat) (hL : StR Au.cells 10 A p L) (hl : L.length ≤ 1000000) (r : Nat) (kd : Int) (rid rau aq is me ca : ByteArray) (am : Int) (rcu : ByteArray) (da ct : Int) (fi : Bool) (hr : Vm.look A r = some (.cells #[.int .i64 kd, .string rid, .string rau, .string aq, .string is, .string me, .string ca, .int .i64 am, .string rcu, .int .i64 da, .int .i64 ct, .bool fi] 27)) : CallA Try.prog 35 #[.slice p L.length cap, .func (.func 34) #[] #[.pointer (some ⟨r, 0, none⟩)]] A (fun u_ A_ => u_ = .int .i64 (idxF rau.toList L 0) ∧ SubA A A_) := by
  refine callA_of_denA ⟨Try.prog, 35, Try.f35, 19, [0, 1, 4, 5, 7, 8], [], [], _⟩ (args := [_, _]) Try.func35 rfl (by kernel_rfl) Try.ntmps35 (by simp) (by kernel_rfl) ?_
  intro ν fr; have nuE := fr.nu
  have cl := fun (a : Au) (B : AH) (h : Vm.look B r = some (.cells #[.int .i64 kd, .string rid, .string rau, .string aq, .string is, .string me, .string ca, .int .i64 am, .string rcu, .int .i64 da, .int .i64 ct, .bool fi] 27)) => mclos_v a.id a.cu a.ap a.rv a.cl a.ex a.st a.atT a.un a.pa r kd rid rau aq is me ca am rcu da ct fi B ⟨h, trivial⟩
  simp (maxDischargeDepth := 16) only [argE_nil, argE_cons, ↓vmD, vmV, vmStd, Nat.reduceMul, ↓reduceIte, Nat.reduceAdd, Nat.reduceSub, Nat.reduceEqDiff, Nat.reduceLT, Nat.reduceLeDiff, reduceCtorEq, Int.reduceToNat, Int.reduceLT, Int.reduceLE, Int.reduceEq, Int.reduceNeg, Int.reduceBEq, Int.reduceBNe, String.reduceEq, forall_const, ↓vmDA, vmVA, ↓vmQA, vmR, vmRA, ↓vmSA, vmSV, tyS, nuE, slIndexByte_v, indexByte_v, indexRune_v, containsRune_v, classOf_v, isWordByte_v, letter_v, digit_v, wordAt_v, rword_v, isName_v, risName_v, recId_v, authId_v, rId13_v, rId27_v, moneyCur_v, authCur_v, rCur27_v, rCur01_v, isPart_v, authCheck_v, inTotal_v, rwithin1_v, exCard_v, recCheck_v, rrecCheck_v, within27_v, rauthCheck_v, fundsA_v, settledA_v, state27A_v, authOpen_v, rauthOpen_v, authUsable_v, rauthUsable_v, authClear_v, rauthClear_v, tolValid_v, rtolValid_v, allowed_v, rallowed_v, checkPres_v, rable_v, apply_v, rapply_v]
  obtain ⟨e, l, he, h2, h3⟩ : ∃ (e : Nat) (l : List Au), e = 0 ∧ idxF rau.toList L 0 = idxF rau.toList l e ∧ l = L.drop e := ⟨0, L, rfl, rfl, by simp⟩
  rw [show (8, some (Value.int .i64 0)) = (8, some (Value.int .i64 (e : Int))) by rw [he]; rfl]
  clear he nuE fr
  induction l generalizing e with
  | nil =>
    have hle := drop_nil h3
    have hlt : ((e : Int) < (L.length : Int)) = False := by simp; omega
    refine LoopA.intro (by kernel_rfl) ?_
    intro ν fr; have nuE := fr.nu
    simp (maxDischargeDepth := 16) only [argE_nil, argE_cons, ↓vmD, vmV, vmStd, Nat.reduceMul, ↓reduceIte, Nat.reduceAdd, Nat.reduceSub, Nat.reduceEqDiff, Nat.reduceLT, Nat.reduceLeDiff, reduceCtorEq, Int.reduceToNat, Int.reduceLT, Int.reduceLE, Int.reduceEq, Int.reduceNeg, Int.reduceBEq, Int.reduceBNe, String.reduceEq, forall_const, ↓vmDA, vmVA, ↓vmQA, vmR, vmRA, ↓vmSA, vmSV, tyS, nuE, slIndexByte_v, indexByte_v, indexRune_v, containsRune_v, classOf_v, isWordByte_v, letter_v, digit_v, wordAt_v, rword_v, isName_v, risName_v, recId_v, authId_v, rId13_v, rId27_v, moneyCur_v, authCur_v, rCur27_v, rCur01_v, isPart_v, authCheck_v, inTotal_v, rwithin1_v, exCard_v, recCheck_v, rrecCheck_v, within27_v, rauthCheck_v, fundsA_v, settledA_v, state27A_v, authOpen_v, rauthOpen_v, authUsable_v, rauthUsable_v, authClear_v, rauthClear_v, tolValid_v, rtolValid_v, allowed_v, rallowed_v, checkPres_v, rable_v, apply_v, rapply_v, hlt, h2, idxF]
    exact SubA.refl _
  | cons a l ih =>
    obtain ⟨ha, hl2, h3'⟩ := drop_some h3
    have hlt : ((e : Int) < (L.length : Int)) = True := by simp; omega
    have we : IntKind.i64.wrap ((e : Int) + 1) = ((e + 1 : Nat) : Int) := by rw [w_i64 (by omega) (by omega)]; omega
    obtain ⟨b, off, cs, ty, fr0, rfl, hb, hc, _⟩ := hL.at ha
    refine LoopA.intro (by kernel_rfl) ?_
    intro ν fr; have nuE := fr.nu
    by_cases hk : a.id.toList = rau.toList
    · simp (maxDischargeDepth := 16) only [argE_nil, argE_cons, ↓vmD, vmV, vmStd, Nat.reduceMul, ↓reduceIte, Nat.reduceAdd, Nat.reduceSub, Nat.reduceEqDiff, Nat.reduceLT, Nat.reduceLeDiff, reduceCtorEq, Int.reduceToNat, Int.reduceLT, Int.reduceLE, Int.reduceEq, Int.reduceNeg, Int.reduceBEq, Int.reduceBNe, String.reduceEq, forall_const, ↓vmDA, vmVA, ↓vmQA, vmR, vmRA, ↓vmSA, vmSV, tyS, nuE, slIndexByte_v, indexByte_v, indexRune_v, containsRune_v, classOf_v, isWordByte_v, letter_v, digit_v, wordAt_v, rword_v, isName_v, risName_v, recId_v, authId_v, rId13_v, rId27_v, moneyCur_v, authCur_v, rCur27_v, rCur01_v, isPart_v, authCheck_v, inTotal_v, rwithin1_v, exCard_v, recCheck_v, rrecCheck_v, within27_v, rauthCheck_v, fundsA_v, settledA_v, state27A_v, authOpen_v, rauthOpen_v, authUsable_v, rauthUsable_v, authClear_v, rauthClear_v, tolValid_v, rtolValid_v, allowed_v, rallowed_v, checkPres_v, rable_v, apply_v, rapply_v, hlt, hb, hc, hr, au_agg, cl a, hk, h2, idxF]
      exact SubA.refl _
    · simp (maxDischargeDepth := 16) only [argE_nil, argE_cons, ↓vmD, vmV, vmStd, Nat.reduceMul, ↓reduceIte, Nat.reduceAdd, Nat.reduceSub, Nat.reduceEqDiff, Nat.reduceLT, Nat.reduceLeDiff, reduceCtorEq, Int.reduceToNat, Int.reduceLT, Int.reduceLE, Int.reduceEq, Int.reduceNeg, Int.reduceBEq, Int.reduceBNe, String.reduceEq, forall_const, ↓vmDA, vmVA, ↓vmQA, vmR, vmRA, ↓vmSA, vmSV, tyS, nuE, slIndexByte_v, indexByte_v, indexRune_v, containsRune_v, classOf_v, isWordByte_v, letter_v, digit_v, wordAt_v, rword_v, isName_v, risName_v, recId_v, authId_v, rId13_v, rId27_v, moneyCur_v, authCur_v, rCur27_v, rCur01_v, isPart_v, authCheck_v, inTotal_v, rwithin1_v, exCard_v, recCheck_v, rrecCheck_v, within27_v, rauthCheck_v, fundsA_v, settledA_v, state27A_v, authOpen_v, rauthOpen_v, authUsable_v, rauthUsable_v, authClear_v, rauthClear_v, tolValid_v, rtolValid_v, allowed_v, rallowed_v, checkPres_v, rable_v, apply_v, rapply_v, hlt, hb, hc, hr, au_agg, cl a, hk, we]
      exact LoopA.weak (ih (e + 1) (by rw [h2]; simp only [idxF, hk, if_false]) h3') (by simp only [subE, get_cons, Nat.reduceEqDiff, ↓reduceIte, reduceCtorEq, Nat.reduceAdd, and_self, and_true]) (SubA.refl _)
theorem indexFuncR_w (A : AH) (L : List Au) (p : Option Addr) (cap : Nat) (hL : StR Au.cells 10 A p L) (hl : L.length ≤ 1000000) (r : Nat) (kd : Int) (rid rau aq is me ca : ByteArray) (am : Int) (rcu : ByteArray) (da ct : Int) (fi : Bool) (hr : Vm.look A r = some (.cells #[.int .i64 kd, .string rid, .string rau, .string aq, .string is, .string me, .string ca, .int .i64 am, .string rcu, .int .i64 da, .int .i64 ct, .bool fi] 27)) (B_ : AH) (hB_ : SubA A B_) : valA Try.prog 35 #[.slice p L.length cap, .func (.func 34) #[] #[.pointer (some ⟨r, 0, none⟩)]] B_ = some (.int .i64 (idxF rau.toList L 0)) := valA_eq (pureA_at (by kernel_rfl) (indexFuncR_h A L p cap hL hl r kd rid rau aq is me ca am rcu da ct fi hr) hB_)
theorem indexFuncR_v (A : AH) (L : List Au) (p : Option Addr) (cap : Nat) (hL : StR Au.cells 10 A p L) (hl : L.length ≤ 1000000) (r : Nat) (kd : Int) (rid rau aq is me ca : ByteArray) (am : Int) (rcu : ByteArray) (da ct : Int) (fi : Bool) (hr : Vm.look A r = some (.cells #[.int .i64 kd, .string rid, .string rau, .string aq, .string is, .string me, .string ca, .int .i64 am, .string rcu, .int .i64 da, .int .i64 ct, .bool fi] 27)) : valA Try.prog 35 #[.slice p L.length cap, .func (.func 34) #[] #[.pointer (some ⟨r, 0, none⟩)]] A = some (.int .i64 (idxF rau.toList L 0)) := valA_eq (pureA_at (by kernel_rfl) (indexFuncR_h A L p cap hL hl r kd rid rau aq is me ca am rcu da ct fi hr) (SubA.refl _))
theorem mtchR_h (A : AH) (L : List Au) (p : Option Addr) (cap : Nat) (hL : StR Au.cells 10 A p L) (hl : L.length ≤ 1000000) (kd : Int) (rid rau aq is me ca : ByteArray) (am : Int) (rcu : ByteArray) (da ct : Int) (fi : Bool) (tb tf : Int) (z1 : rid.size ≤ 100000) (z2 : rau.size ≤ 100000) (z3 : aq.size ≤ 100000) (z4 : is.size ≤ 100000) (z5 : me.size ≤ 100000) (z6 : ca.size ≤ 100000) (z7 : rcu.size ≤ 100000) (hz : ∀ a ∈ L, a.id.size ≤ 100000 ∧ a.cu.size ≤ 100000) : CallA Try.prog 14 #[.slice p L.length cap, .agg #[.int .i64 kd, .string rid, .string rau, .string aq, .string is, .string me, .string ca, .int .i64 am, .string rcu, .int .i64 da, .int .i64 ct, .bool fi], .agg #[.int .i64 tb, .int .i64 tf]] A (fun u_ A_ => u_ = matV L kd rid rau aq is me ca am rcu da ct fi tb tf ∧ SubA A A_) := by
  refine callA_of_denA ⟨Try.prog, 14, Try.f14, 42, [0, 1, 2, 4, 5, 6, 7, 8, 9, 10, 12], [], [(10, .p [(0, 0), (1, 0), (2, 0), (3, 0), (4, 0), (5, 0), (6, 0), (7, 0), (8, 0), (9, 0), (10, 1), (11, 2), (12, 0)])], _⟩ (args := [_, _, _]) Try.func14 rfl (by kernel_rfl) Try.ntmps14 (by simp) (by kernel_rfl) ?_
  intro ν fr; have nuE := fr.nu
  have ix2 := indexFuncR_w ((ν 1, .cells #[.int .i64 tb, .int .i64 tf] 29) :: (ν 0, .cells #[.int .i64 kd, .string rid, .string rau, .string aq, .string is, .string me, .string ca, .int .i64 am, .string rcu, .int .i64 da, .int .i64 ct, .bool fi] 27) :: A) L p cap (hL.mono (SubA.skip (fr.2 1) (SubA.skip (fr.2 0) (SubA.refl _)))) hl (ν 0) kd rid rau aq is me ca am rcu da ct fi (by simp [Vm.look, nuE])
  by_cases q0 : ableG kd rid rau aq is me ca am rcu da ct tb tf = 0
  · by_cases q1 : rau.toList = []
    · simp (maxDischargeDepth := 16) only [argE_nil, argE_cons, ↓vmD, vmV, vmStd, Nat.reduceMul, ↓reduceIte, Nat.reduceAdd, Nat.reduceSub, Nat.reduceEqDiff, Nat.reduceLT, Nat.reduceLeDiff, reduceCtorEq, Int.reduceToNat, Int.reduceLT, Int.reduceLE, Int.reduceEq, Int.reduceNeg, Int.reduceBEq, Int.reduceBNe, String.reduceEq, forall_const, ↓vmDA, vmVA, ↓vmQA, vmR, vmRA, ↓vmSA, vmSV, tyS, nuE, SubA.skip, SubA.refl, fr.2, slIndexByte_v, indexByte_v, indexRune_v, containsRune_v, classOf_v, isWordByte_v, letter_v, digit_v, wordAt_v, rword_v, isName_v, risName_v, recId_v, authId_v, rId13_v, rId27_v, moneyCur_v, authCur_v, rCur27_v, rCur01_v, isPart_v, authCheck_v, inTotal_v, rwithin1_v, exCard_v, recCheck_v, rrecCheck_v, within27_v, rauthCheck_v, fundsA_v, settledA_v, state27A_v, authOpen_v, rauthOpen_v, authUsable_v, rauthUsable_v, authClear_v, rauthClear_v, tolValid_v, rtolValid_v, allowed_v, rallowed_v, checkPres_v, rable_v, apply_v, rapply_v, z1, z2, z3, z4, z5, z6, z7, q0, q1, matV, matI]
    · cases hf : findF rau.toList L 0 with
      | none =>
        simp (maxDischargeDepth := 16) only [argE_nil, argE_cons, ↓vmD, vmV, vmStd, Nat.reduceMul, ↓reduceIte, Nat.reduceAdd, Nat.reduceSub, Nat.reduceEqDiff, Nat.reduceLT, Nat.reduceLeDiff, reduceCtorEq, Int.reduceToNat, Int.reduceLT, Int.reduceLE, Int.reduceEq, Int.reduceNeg, Int.reduceBEq, Int.reduceBNe, String.reduceEq, forall_const, ↓vmDA, vmVA, ↓vmQA, vmR, vmRA, ↓vmSA, vmSV, tyS, nuE, SubA.skip, SubA.refl, fr.2, slIndexByte_v, indexByte_v, indexRune_v, containsRune_v, classOf_v, isWordByte_v, letter_v, digit_v, wordAt_v, rword_v, isName_v, risName_v, recId_v, authId_v, rId13_v, rId27_v, moneyCur_v, authCur_v, rCur27_v, rCur01_v, isPart_v, authCheck_v, inTotal_v, rwithin1_v, exCard_v, recCheck_v, rrecCheck_v, within27_v, rauthCheck_v, fundsA_v, settledA_v, state27A_v, authOpen_v, rauthOpen_v, authUsable_v, rauthUsable_v, authClear_v, rauthClear_v, tolValid_v, rtolValid_v, allowed_v, rallowed_v, checkPres_v, rable_v, apply_v, rapply_v, z1, z2, z3, z4, z5, z6, z7, q0, q1, ix2, find_none hf, matV, matI, hf]
      | some pr =>
        obtain ⟨i, a⟩ := pr
        obtain ⟨h3, h4⟩ := findF_mem hf
        have h1 : idxF rau.toList L 0 = i := (find_some hf).1
        have hl2 : i < L.length := (List.getElem?_eq_some_iff.1 h3).1
        obtain ⟨b, off, cs, ty, fr0, rfl, hb, hc, _⟩ := hL.at h3
        have hza := hz a (List.mem_of_getElem? h3)
        have i0 : ((i : Int) < 0) = False := by simp
        have nb := fr.ne (b := b) (by rw [hb]; simp)
        have ap := apply_v a.id a.cu a.ap a.rv a.cl a.ex a.st a.atT a.un a.pa kd rid rau aq is me ca am rcu da ct fi tb tf hza.1 hza.2 z1 z2 z3 z4 z5 z6 z7
        by_cases q2 : appEA a kd rid rau aq is me ca am rcu da ct fi tb tf = 0
        · have q2' := q2
          unfold appEA at q2'
          simp (maxDischargeDepth := 16) only [argE_nil, argE_cons, ↓vmD, vmV, vmStd, Nat.reduceMul, ↓reduceIte, Nat.reduceAdd, Nat.reduceSub, Nat.reduceEqDiff, Nat.reduceLT, Nat.reduceLeDiff, reduceCtorEq, Int.reduceToNat, Int.reduceLT, Int.reduceLE, Int.reduceEq, Int.reduceNeg, Int.reduceBEq, Int.reduceBNe, String.reduceEq, forall_const, ↓vmDA, vmVA, ↓vmQA, vmR, vmRA, ↓vmSA, vmSV, tyS, nuE, SubA.skip, SubA.refl, fr.2, slIndexByte_v, indexByte_v, indexRune_v, containsRune_v, classOf_v, isWordByte_v, letter_v, digit_v, wordAt_v, rword_v, isName_v, risName_v, recId_v, authId_v, rId13_v, rId27_v, moneyCur_v, authCur_v, rCur27_v, rCur01_v, isPart_v, authCheck_v, inTotal_v, rwithin1_v, exCard_v, recCheck_v, rrecCheck_v, within27_v, rauthCheck_v, fundsA_v, settledA_v, state27A_v, authOpen_v, rauthOpen_v, authUsable_v, rauthUsable_v, authClear_v, rauthClear_v, tolValid_v, rtolValid_v, allowed_v, rallowed_v, checkPres_v, rable_v, apply_v, rapply_v, z1, z2, z3, z4, z5, z6, z7, q0, q1, ix2, h1, i0, nb, hb, hc, au_agg, ap, appV, appO, appZ, q2, q2', matV, matI, hf, hl2, Int.ofNat_lt]
        · have q2' := q2
          unfold appEA at q2'
          simp (maxDischargeDepth := 16) only [argE_nil, argE_cons, ↓vmD, vmV, vmStd, Nat.reduceMul, ↓reduceIte, Nat.reduceAdd, Nat.reduceSub, Nat.reduceEqDiff, Nat.reduceLT, Nat.reduceLeDiff, reduceCtorEq, Int.reduceToNat, Int.reduceLT, Int.reduceLE, Int.reduceEq, Int.reduceNeg, Int.reduceBEq, Int.reduceBNe, String.reduceEq, forall_const, ↓vmDA, vmVA, ↓vmQA, vmR, vmRA, ↓vmSA, vmSV, tyS, nuE, SubA.skip, SubA.refl, fr.2, slIndexByte_v, indexByte_v, indexRune_v, containsRune_v, classOf_v, isWordByte_v, letter_v, digit_v, wordAt_v, rword_v, isName_v, risName_v, recId_v, authId_v, rId13_v, rId27_v, moneyCur_v, authCur_v, rCur27_v, rCur01_v, isPart_v, authCheck_v, inTotal_v, rwithin1_v, exCard_v, recCheck_v, rrecCheck_v, within27_v, rauthCheck_v, fundsA_v, settledA_v, state27A_v, authOpen_v, rauthOpen_v, authUsable_v, rauthUsable_v, authClear_v, rauthClear_v, tolValid_v, rtolValid_v, allowed_v, rallowed_v, checkPres_v, rable_v, apply_v, rapply_v, z1, z2, z3, z4, z5, z6, z7, q0, q1, ix2, h1, i0, nb, hb, hc, au_agg, ap, appV, appO, appZ, q2, q2', matV, matI, hf, hl2, Int.ofNat_lt]
          simp only [appEA]
  · simp (maxDischargeDepth := 16) only [argE_nil, argE_cons, ↓vmD, vmV, vmStd, Nat.reduceMul, ↓reduceIte, Nat.reduceAdd, Nat.reduceSub, Nat.reduceEqDiff, Nat.reduceLT, Nat.reduceLeDiff, reduceCtorEq, Int.reduceToNat, Int.reduceLT, Int.reduceLE, Int.reduceEq, Int.reduceNeg, Int.reduceBEq, Int.reduceBNe, String.reduceEq, forall_const, ↓vmDA, vmVA, ↓vmQA, vmR, vmRA, ↓vmSA, vmSV, tyS, nuE, SubA.skip, SubA.refl, fr.2, slIndexByte_v, indexByte_v, indexRune_v, containsRune_v, classOf_v, isWordByte_v, letter_v, digit_v, wordAt_v, rword_v, isName_v, risName_v, recId_v, authId_v, rId13_v, rId27_v, moneyCur_v, authCur_v, rCur27_v, rCur01_v, isPart_v, authCheck_v, inTotal_v, rwithin1_v, exCard_v, recCheck_v, rrecCheck_v, within27_v, rauthCheck_v, fundsA_v, settledA_v, state27A_v, authOpen_v, rauthOpen_v, authUsable_v, rauthUsable_v, authClear_v, rauthClear_v, tolValid_v, rtolValid_v, allowed_v, rallowed_v, checkPres_v, rable_v, apply_v, rapply_v, z1, z2, z3, z4, z5, z6, z7, q0, matV, matI]
theorem mtchR_w (A : AH) (L : List Au) (p : Option Addr) (cap : Nat) (hL : StR Au.cells 10 A p L) (hl : L.length ≤ 1000000) (kd : Int) (rid rau aq is me ca : ByteArray) (am : Int) (rcu : ByteArray) (da ct : Int) (fi : Bool) (tb tf : Int) (z1 : rid.size ≤ 100000) (z2 : rau.size ≤ 100000) (z3 : aq.size ≤ 100000) (z4 : is.size ≤ 100000) (z5 : me.size ≤ 100000) (z6 : ca.size ≤ 100000) (z7 : rcu.size ≤ 100000) (hz : ∀ a ∈ L, a.id.size ≤ 100000 ∧ a.cu.size ≤ 100000) (B_ : AH) (hB_ : SubA A B_) : valA Try.prog 14 #[.slice p L.length cap, .agg #[.int .i64 kd, .string rid, .string rau, .string aq, .string is, .string me, .string ca, .int .i64 am, .string rcu, .int .i64 da, .int .i64 ct, .bool fi], .agg #[.int .i64 tb, .int .i64 tf]] B_ = some (matV L kd rid rau aq is me ca am rcu da ct fi tb tf) := valA_eq (pureA_at (by kernel_rfl) (mtchR_h A L p cap hL hl kd rid rau aq is me ca am rcu da ct fi tb tf z1 z2 z3 z4 z5 z6 z7 hz) hB_)
theorem mtchR_v (A : AH) (L : List Au) (p : Option Addr) (cap : Nat) (hL : StR Au.cells 10 A p L) (hl : L.length ≤ 1000000) (kd : Int) (rid rau aq is me ca : ByteArray) (am : Int) (rcu : ByteArray) (da ct : Int) (fi : Bool) (tb tf : Int) (z1 : rid.size ≤ 100000) (z2 : rau.size ≤ 100000) (z3 : aq.size ≤ 100000) (z4 : is.size ≤ 100000) (z5 : me.size ≤ 100000) (z6 : ca.size ≤ 100000) (z7 : rcu.size ≤ 100000) (hz : ∀ a ∈ L, a.id.size ≤ 100000 ∧ a.cu.size ≤ 100000) : valA Try.prog 14 #[.slice p L.length cap, .agg #[.int .i64 kd, .string rid, .string rau, .string aq, .string is, .string me, .string ca, .int .i64 am, .string rcu, .int .i64 da, .int .i64 ct, .bool fi], .agg #[.int .i64 tb, .int .i64 tf]] A = some (matV L kd rid rau aq is me ca am rcu da ct fi tb tf) := valA_eq (pureA_at (by kernel_rfl) (mtchR_h A L p cap hL hl kd rid rau aq is me ca am rcu da ct fi tb tf z1 z2 z3 z4 z5 z6 z7 hz) (SubA.refl _))
theorem rmtchR_h (A : AH) (L : List Au) (p : Option Addr) (cap : Nat) (hL : StR Au.cells 10 A p L) (hl : L.length ≤ 1000000) (kd : Int) (rid rau aq is me ca : ByteArray) (am : Int) (rcu : ByteArray) (da ct : Int) (fi : Bool) (tb tf : Int) (z1 : rid.size ≤ 100000) (z2 : rau.size ≤ 100000) (z3 : aq.size ≤ 100000) (z4 : is.size ≤ 100000) (z5 : me.size ≤ 100000) (z6 : ca.size ≤ 100000) (z7 : rcu.size ≤ 100000) (hz : ∀ a ∈ L, a.id.size ≤ 100000 ∧ a.cu.size ≤ 100000) : CallA Try.prog 15 #[.slice p L.length cap, .agg #[.int .i64 kd, .string rid, .string rau, .string aq, .string is, .string me, .string ca, .int .i64 am, .string rcu, .int .i64 da, .int .i64 ct, .bool fi], .agg #[.int .i64 tb, .int .i64 tf]] A (fun u_ A_ => u_ = matV L kd rid rau aq is me ca am rcu da ct fi tb tf ∧ SubA A A_) := by
  refine callA_of_denA ⟨Try.prog, 15, Try.f15, 49, [0, 1, 2, 4, 5, 6, 7, 8, 9], [], [(7, .q false), (8, .q false)], _⟩ (args := [_, _, _]) Try.func15 rfl (by kernel_rfl) Try.ntmps15 (by simp) (by kernel_rfl) ?_
  intro ν fr; have nuE := fr.nu
  have ap := fun a => rapply_v (Au.id a) a.cu a.ap a.rv a.cl a.ex a.st a.atT a.un a.pa kd rid rau aq is me ca am rcu da ct fi tb tf
  by_cases q0 : ableG kd rid rau aq is me ca am rcu da ct tb tf = 0
  · simp (maxDischargeDepth := 16) only [argE_nil, argE_cons, ↓vmD, vmV, vmStd, Nat.reduceMul, ↓reduceIte, Nat.reduceAdd, Nat.reduceSub, Nat.reduceEqDiff, Nat.reduceLT, Nat.reduceLeDiff, reduceCtorEq, Int.reduceToNat, Int.reduceLT, Int.reduceLE, Int.reduceEq, Int.reduceNeg, Int.reduceBEq, Int.reduceBNe, String.reduceEq, forall_const, ↓vmDA, vmVA, ↓vmQA, vmR, vmRA, ↓vmSA, vmSV, tyS, nuE, SubA.skip, SubA.refl, fr.2, slIndexByte_v, indexByte_v, indexRune_v, containsRune_v, classOf_v, isWordByte_v, letter_v, digit_v, wordAt_v, rword_v, isName_v, risName_v, recId_v, authId_v, rId13_v, rId27_v, moneyCur_v, authCur_v, rCur27_v, rCur01_v, isPart_v, authCheck_v, inTotal_v, rwithin1_v, exCard_v, recCheck_v, rrecCheck_v, within27_v, rauthCheck_v, fundsA_v, settledA_v, state27A_v, authOpen_v, rauthOpen_v, authUsable_v, rauthUsable_v, authClear_v, rauthClear_v, tolValid_v, rtolValid_v, allowed_v, rallowed_v, checkPres_v, rable_v, apply_v, rapply_v, z1, z2, z3, z4, z5, z6, z7, q0]
    obtain ⟨e, l, he, h2, h3⟩ : ∃ (e : Nat) (l : List Au), e = 0 ∧ findF rau.toList L 0 = findF rau.toList l e ∧ l = L.drop e := ⟨0, L, rfl, rfl, by simp⟩
    rw [show (9, some (Value.int .i64 0)) = (9, some (Value.int .i64 (e : Int))) by rw [he]; rfl]
    clear he
    have f0 := fr.2 0
    have f1 := fr.2 1
    have dst_ : ((ν 0 = ν 1) = False) ∧ ((ν 1 = ν 0) = False) := (by simp [nuE]); generalize ν 0 = n0 at dst_  f0 f1 ⊢; generalize ν 1 = n1 at dst_  f0 f1 ⊢
    clear nuE fr
    induction l generalizing e with
    | nil =>
      have hle := drop_nil h3
      have hlt : ((e : Int) < (L.length : Int)) = False := by simp; omega
      refine LoopA.intro (by kernel_rfl) ?_
      intro ν fr; have nuE := And.intro dst_ fr.nu
      simp (maxDischargeDepth := 16) only [argE_nil, argE_cons, ↓vmD, vmV, vmStd, Nat.reduceMul, ↓reduceIte, Nat.reduceAdd, Nat.reduceSub, Nat.reduceEqDiff, Nat.reduceLT, Nat.reduceLeDiff, reduceCtorEq, Int.reduceToNat, Int.reduceLT, Int.reduceLE, Int.reduceEq, Int.reduceNeg, Int.reduceBEq, Int.reduceBNe, String.reduceEq, forall_const, ↓vmDA, vmVA, ↓vmQA, vmR, vmRA, ↓vmSA, vmSV, tyS, nuE, SubA.skip, SubA.refl, fr.2, slIndexByte_v, indexByte_v, indexRune_v, containsRune_v, classOf_v, isWordByte_v, letter_v, digit_v, wordAt_v, rword_v, isName_v, risName_v, recId_v, authId_v, rId13_v, rId27_v, moneyCur_v, authCur_v, rCur27_v, rCur01_v, isPart_v, authCheck_v, inTotal_v, rwithin1_v, exCard_v, recCheck_v, rrecCheck_v, within27_v, rauthCheck_v, fundsA_v, settledA_v, state27A_v, authOpen_v, rauthOpen_v, authUsable_v, rauthUsable_v, authClear_v, rauthClear_v, tolValid_v, rtolValid_v, allowed_v, rallowed_v, checkPres_v, rable_v, apply_v, rapply_v, f0, f1, hlt, h2, findF, matV, matI, q0, ite_self]
    | cons a l ih =>
      obtain ⟨ha, hl2, h3'⟩ := drop_some h3
      have hlt : ((e : Int) < (L.length : Int)) = True := by simp; omega
      have we : IntKind.i64.wrap ((e : Int) + 1) = ((e + 1 : Nat) : Int) := by rw [w_i64 (by omega) (by omega)]; omega
      obtain ⟨b, off, cs, ty, fr0, rfl, hb, hc, hc2⟩ := hL.at ha
      have hi : cs[off + e * 10]? = some (.string a.id) := by simpa using hc2 0 _ rfl
      have hza := hz a (List.mem_of_getElem? ha)
      have k0 := look_ne f0 hb
      have k1 := look_ne f1 hb
      refine LoopA.intro (by kernel_rfl) ?_
      intro ν fr; have nuE := And.intro dst_ fr.nu
      by_cases q1 : rau.toList = []
      · simp (maxDischargeDepth := 16) only [argE_nil, argE_cons, ↓vmD, vmV, vmStd, Nat.reduceMul, ↓reduceIte, Nat.reduceAdd, Nat.reduceSub, Nat.reduceEqDiff, Nat.reduceLT, Nat.reduceLeDiff, reduceCtorEq, Int.reduceToNat, Int.reduceLT, Int.reduceLE, Int.reduceEq, Int.reduceNeg, Int.reduceBEq, Int.reduceBNe, String.reduceEq, forall_const, ↓vmDA, vmVA, ↓vmQA, vmR, vmRA, ↓vmSA, vmSV, tyS, nuE, SubA.skip, SubA.refl, fr.2, slIndexByte_v, indexByte_v, indexRune_v, containsRune_v, classOf_v, isWordByte_v, letter_v, digit_v, wordAt_v, rword_v, isName_v, risName_v, recId_v, authId_v, rId13_v, rId27_v, moneyCur_v, authCur_v, rCur27_v, rCur01_v, isPart_v, authCheck_v, inTotal_v, rwithin1_v, exCard_v, recCheck_v, rrecCheck_v, within27_v, rauthCheck_v, fundsA_v, settledA_v, state27A_v, authOpen_v, rauthOpen_v, authUsable_v, rauthUsable_v, authClear_v, rauthClear_v, tolValid_v, rtolValid_v, allowed_v, rallowed_v, checkPres_v, rable_v, apply_v, rapply_v, f0, f1, hlt, q1, matV, matI, q0, ite_self]
      · by_cases hk : a.id.toList = rau.toList
        · by_cases q2 : appEA a kd rid rau aq is me ca am rcu da ct fi tb tf = 0
          · have q2' := q2
            unfold appEA at q2'
            simp (maxDischargeDepth := 16) only [argE_nil, argE_cons, ↓vmD, vmV, vmStd, Nat.reduceMul, ↓reduceIte, Nat.reduceAdd, Nat.reduceSub, Nat.reduceEqDiff, Nat.reduceLT, Nat.reduceLeDiff, reduceCtorEq, Int.reduceToNat, Int.reduceLT, Int.reduceLE, Int.reduceEq, Int.reduceNeg, Int.reduceBEq, Int.reduceBNe, String.reduceEq, forall_const, ↓vmDA, vmVA, ↓vmQA, vmR, vmRA, ↓vmSA, vmSV, tyS, nuE, SubA.skip, SubA.refl, fr.2, slIndexByte_v, indexByte_v, indexRune_v, containsRune_v, classOf_v, isWordByte_v, letter_v, digit_v, wordAt_v, rword_v, isName_v, risName_v, recId_v, authId_v, rId13_v, rId27_v, moneyCur_v, authCur_v, rCur27_v, rCur01_v, isPart_v, authCheck_v, inTotal_v, rwithin1_v, exCard_v, recCheck_v, rrecCheck_v, within27_v, rauthCheck_v, fundsA_v, settledA_v, state27A_v, authOpen_v, rauthOpen_v, authUsable_v, rauthUsable_v, authClear_v, rauthClear_v, tolValid_v, rtolValid_v, allowed_v, rallowed_v, checkPres_v, rable_v, apply_v, rapply_v, f0, f1, k0, k1, z1, z2, z3, z4, z5, z6, z7, q0, q1, hlt, hb, hc, hi, au_agg, ap, hza, appV, appO, appZ, hk, q2, q2', matV, matI, h2, findF]
          · have q2' := q2
            unfold appEA at q2'
            simp (maxDischargeDepth := 16) only [argE_nil, argE_cons, ↓vmD, vmV, vmStd, Nat.reduceMul, ↓reduceIte, Nat.reduceAdd, Nat.reduceSub, Nat.reduceEqDiff, Nat.reduceLT, Nat.reduceLeDiff, reduceCtorEq, Int.reduceToNat, Int.reduceLT, Int.reduceLE, Int.reduceEq, Int.reduceNeg, Int.reduceBEq, Int.reduceBNe, String.reduceEq, forall_const, ↓vmDA, vmVA, ↓vmQA, vmR, vmRA, ↓vmSA, vmSV, tyS, nuE, SubA.skip, SubA.refl, fr.2, slIndexByte_v, indexByte_v, indexRune_v, containsRune_v, classOf_v, isWordByte_v, letter_v, digit_v, wordAt_v, rword_v, isName_v, risName_v, recId_v, authId_v, rId13_v, rId27_v, moneyCur_v, authCur_v, rCur27_v, rCur01_v, isPart_v, authCheck_v, inTotal_v, rwithin1_v, exCard_v, recCheck_v, rrecCheck_v, within27_v, rauthCheck_v, fundsA_v, settledA_v, state27A_v, authOpen_v, rauthOpen_v, authUsable_v, rauthUsable_v, authClear_v, rauthClear_v, tolValid_v, rtolValid_v, allowed_v, rallowed_v, checkPres_v, rable_v, apply_v, rapply_v, f0, f1, k0, k1, z1, z2, z3, z4, z5, z6, z7, q0, q1, hlt, hb, hc, hi, au_agg, ap, hza, appV, appO, appZ, hk, q2, q2', matV, matI, h2, findF]
            simp only [appEA]
        · simp (maxDischargeDepth := 16) only [argE_nil, argE_cons, ↓vmD, vmV, vmStd, Nat.reduceMul, ↓reduceIte, Nat.reduceAdd, Nat.reduceSub, Nat.reduceEqDiff, Nat.reduceLT, Nat.reduceLeDiff, reduceCtorEq, Int.reduceToNat, Int.reduceLT, Int.reduceLE, Int.reduceEq, Int.reduceNeg, Int.reduceBEq, Int.reduceBNe, String.reduceEq, forall_const, ↓vmDA, vmVA, ↓vmQA, vmR, vmRA, ↓vmSA, vmSV, tyS, nuE, SubA.skip, SubA.refl, fr.2, slIndexByte_v, indexByte_v, indexRune_v, containsRune_v, classOf_v, isWordByte_v, letter_v, digit_v, wordAt_v, rword_v, isName_v, risName_v, recId_v, authId_v, rId13_v, rId27_v, moneyCur_v, authCur_v, rCur27_v, rCur01_v, isPart_v, authCheck_v, inTotal_v, rwithin1_v, exCard_v, recCheck_v, rrecCheck_v, within27_v, rauthCheck_v, fundsA_v, settledA_v, state27A_v, authOpen_v, rauthOpen_v, authUsable_v, rauthUsable_v, authClear_v, rauthClear_v, tolValid_v, rtolValid_v, allowed_v, rallowed_v, checkPres_v, rable_v, apply_v, rapply_v, f0, f1, k0, k1, z1, z2, z3, z4, z5, z6, z7, q0, q1, hlt, hb, hc, hi, au_agg, hk, we]
          exact LoopA.weak (ih (e + 1) (by rw [h2]; simp only [findF, hk, if_false]) h3') (by simp only [subE, get_cons, Nat.reduceEqDiff, ↓reduceIte, reduceCtorEq, Nat.reduceAdd, and_self, and_true]) (SubA.refl _)
  · simp (maxDischargeDepth := 16) only [argE_nil, argE_cons, ↓vmD, vmV, vmStd, Nat.reduceMul, ↓reduceIte, Nat.reduceAdd, Nat.reduceSub, Nat.reduceEqDiff, Nat.reduceLT, Nat.reduceLeDiff, reduceCtorEq, Int.reduceToNat, Int.reduceLT, Int.reduceLE, Int.reduceEq, Int.reduceNeg, Int.reduceBEq, Int.reduceBNe, String.reduceEq, forall_const, ↓vmDA, vmVA, ↓vmQA, vmR, vmRA, ↓vmSA, vmSV, tyS, nuE, SubA.skip, SubA.refl, fr.2, slIndexByte_v, indexByte_v, indexRune_v, containsRune_v, classOf_v, isWordByte_v, letter_v, digit_v, wordAt_v, rword_v, isName_v, risName_v, recId_v, authId_v, rId13_v, rId27_v, moneyCur_v, authCur_v, rCur27_v, rCur01_v, isPart_v, authCheck_v, inTotal_v, rwithin1_v, exCard_v, recCheck_v, rrecCheck_v, within27_v, rauthCheck_v, fundsA_v, settledA_v, state27A_v, authOpen_v, rauthOpen_v, authUsable_v, rauthUsable_v, authClear_v, rauthClear_v, tolValid_v, rtolValid_v, allowed_v, rallowed_v, checkPres_v, rable_v, apply_v, rapply_v, z1, z2, z3, z4, z5, z6, z7, q0, matV, matI]
theorem rmtchR_w (A : AH) (L : List Au) (p : Option Addr) (cap : Nat) (hL : StR Au.cells 10 A p L) (hl : L.length ≤ 1000000) (kd : Int) (rid rau aq is me ca : ByteArray) (am : Int) (rcu : ByteArray) (da ct : Int) (fi : Bool) (tb tf : Int) (z1 : rid.size ≤ 100000) (z2 : rau.size ≤ 100000) (z3 : aq.size ≤ 100000) (z4 : is.size ≤ 100000) (z5 : me.size ≤ 100000) (z6 : ca.size ≤ 100000) (z7 : rcu.size ≤ 100000) (hz : ∀ a ∈ L, a.id.size ≤ 100000 ∧ a.cu.size ≤ 100000) (B_ : AH) (hB_ : SubA A B_) : valA Try.prog 15 #[.slice p L.length cap, .agg #[.int .i64 kd, .string rid, .string rau, .string aq, .string is, .string me, .string ca, .int .i64 am, .string rcu, .int .i64 da, .int .i64 ct, .bool fi], .agg #[.int .i64 tb, .int .i64 tf]] B_ = some (matV L kd rid rau aq is me ca am rcu da ct fi tb tf) := valA_eq (pureA_at (by kernel_rfl) (rmtchR_h A L p cap hL hl kd rid rau aq is me ca am rcu da ct fi tb tf z1 z2 z3 z4 z5 z6 z7 hz) hB_)
theorem rmtchR_v (A : AH) (L : List Au) (p : Option Addr) (cap : Nat) (hL : StR Au.cells 10 A p L) (hl : L.length ≤ 1000000) (kd : Int) (rid rau aq is me ca : ByteArray) (am : Int) (rcu : ByteArray) (da ct : Int) (fi : Bool) (tb tf : Int) (z1 : rid.size ≤ 100000) (z2 : rau.size ≤ 100000) (z3 : aq.size ≤ 100000) (z4 : is.size ≤ 100000) (z5 : me.size ≤ 100000) (z6 : ca.size ≤ 100000) (z7 : rcu.size ≤ 100000) (hz : ∀ a ∈ L, a.id.size ≤ 100000 ∧ a.cu.size ≤ 100000) : valA Try.prog 15 #[.slice p L.length cap, .agg #[.int .i64 kd, .string rid, .string rau, .string aq, .string is, .string me, .string ca, .int .i64 am, .string rcu, .int .i64 da, .int .i64 ct, .bool fi], .agg #[.int .i64 tb, .int .i64 tf]] A = some (matV L kd rid rau aq is me ca am rcu da ct fi tb tf) := valA_eq (pureA_at (by kernel_rfl) (rmtchR_h A L p cap hL hl kd rid rau aq is me ca am rcu da ct fi tb tf z1 z2 z3 z4 z5 z6 z7 hz) (SubA.refl _))
def strC (s : ByteArray) : List Value := [.string s]
theorem str_len (s : ByteArray) : (strC s).length = 1 := rfl
theorem str_flat : ∀ xs : List ByteArray, xs.flatMap strC = xs.map .string
  | [] => rfl
  | x :: l => by simp only [List.flatMap_cons, str_flat l]; rfl
theorem OwnL.strR {v : Value} {B A : AH} {xs : List ByteArray} {e : TypeId} (o : OwnL strC 1 e v B xs) (h : SubA B A) : ∃ p cap, v = .slice p xs.length cap ∧ StrR A p xs := by
  by_cases hx : xs = []
  · obtain ⟨p, cap, h1, _⟩ := OwnL.slice o
    exact ⟨p, cap, h1, .inl hx⟩
  · obtain ⟨g, cap, cur, h1, rfl, h3, h4, h5, h6⟩ := OwnL.blk o hx
    refine ⟨_, cap, h1, .inr ⟨g, cur, e, rfl, h g _ (by simp [Vm.look]), fun i s hs => ?_⟩⟩
    rw [str_flat] at h6
    have : (cur.toList.take (xs.length * 1))[i]? = some (.string s) := by rw [h6]; simp [hs]
    rw [List.getElem?_take] at this
    split at this
    · simpa using this
    · cases this
theorem unmatchedR_h (A : AH) (L : List Au) (p : Option Addr) (cap : Nat) (hL : StR Au.cells 10 A p L) (hl : L.length ≤ 1000000) (hz : ∀ a ∈ L, a.id.size ≤ 100000 ∧ a.cu.size ≤ 100000) : CallA Try.prog 23 #[.slice p L.length cap] A (fun u_ A_ => ∃ B, OwnL strC 1 9 u_ B (opens L) ∧ SubA B A_ ∧ SubA A A_ ∧ Dis B A) := by
  refine callA_of_denA ⟨Try.prog, 23, Try.f23, 22, [0, 2, 3, 5, 6, 7, 8], [], [], _⟩ (args := [_]) Try.func23 rfl (by kernel_rfl) Try.ntmps23 (by simp) (by kernel_rfl) ?_
  intro ν fr; have nuE := fr.nu
  simp (maxDischargeDepth := 16) only [argE_nil, argE_cons, ↓vmD, vmV, vmStd, Nat.reduceMul, ↓reduceIte, Nat.reduceAdd, Nat.reduceSub, Nat.reduceEqDiff, Nat.reduceLT, Nat.reduceLeDiff, reduceCtorEq, Int.reduceToNat, Int.reduceLT, Int.reduceLE, Int.reduceEq, Int.reduceNeg, Int.reduceBEq, Int.reduceBNe, String.reduceEq, forall_const, ↓vmDA, vmVA, ↓vmQA, vmR, vmRA, ↓vmSA, vmSV, tyS, nuE, slIndexByte_v, indexByte_v, indexRune_v, containsRune_v, classOf_v, isWordByte_v, letter_v, digit_v, wordAt_v, rword_v, isName_v, risName_v, recId_v, authId_v, rId13_v, rId27_v, moneyCur_v, authCur_v, rCur27_v, rCur01_v, isPart_v, authCheck_v, inTotal_v, rwithin1_v, exCard_v, recCheck_v, rrecCheck_v, within27_v, rauthCheck_v, fundsA_v, settledA_v, state27A_v, authOpen_v, rauthOpen_v, authUsable_v, rauthUsable_v, authClear_v, rauthClear_v, tolValid_v, rtolValid_v, allowed_v, rallowed_v, checkPres_v, rable_v, apply_v, rapply_v]
  obtain ⟨e, l, v, B, dn, he, hv, hB, h2, ho, hnb, h3⟩ : ∃ (e : Nat) (l : List Au) (v : Value) (B : AH) (dn : List ByteArray), e = 0 ∧ v = .slice none 0 0 ∧ B = [] ∧ opens L = dn ++ opens l ∧ OwnL strC 1 9 v B dn ∧ Dis B A ∧ l = L.drop e := ⟨0, L, _, [], [], rfl, rfl, rfl, rfl, OwnL.nil _ _ _, Dis.nil _, by simp⟩
  have hdn : dn.length ≤ e := by
    obtain ⟨q, c, h1, _⟩ := OwnL.slice ho
    rw [hv] at h1
    simp only [Value.slice.injEq] at h1
    omega
  rw [show (8, some (Value.int .i64 0)) = (8, some (Value.int .i64 (e : Int))) by rw [he]; rfl]
  rw [show (3, some (Value.slice none 0 0)) = (3, some v) by rw [hv]]
  refine LoopA.at (A := B ++ A) (by rw [hB]; exact SubA.refl _) ?_
  clear he hv hB nuE fr
  induction l generalizing e v B dn with
  | nil =>
    have hle := drop_nil h3
    have hlt : ((e : Int) < (L.length : Int)) = False := by simp; omega
    refine LoopA.intro (by kernel_rfl) ?_
    intro ν fr; have nuE := fr.nu
    simp (maxDischargeDepth := 16) only [argE_nil, argE_cons, ↓vmD, vmV, vmStd, Nat.reduceMul, ↓reduceIte, Nat.reduceAdd, Nat.reduceSub, Nat.reduceEqDiff, Nat.reduceLT, Nat.reduceLeDiff, reduceCtorEq, Int.reduceToNat, Int.reduceLT, Int.reduceLE, Int.reduceEq, Int.reduceNeg, Int.reduceBEq, Int.reduceBNe, String.reduceEq, forall_const, ↓vmDA, vmVA, ↓vmQA, vmR, vmRA, ↓vmSA, vmSV, tyS, nuE, slIndexByte_v, indexByte_v, indexRune_v, containsRune_v, classOf_v, isWordByte_v, letter_v, digit_v, wordAt_v, rword_v, isName_v, risName_v, recId_v, authId_v, rId13_v, rId27_v, moneyCur_v, authCur_v, rCur27_v, rCur01_v, isPart_v, authCheck_v, inTotal_v, rwithin1_v, exCard_v, recCheck_v, rrecCheck_v, within27_v, rauthCheck_v, fundsA_v, settledA_v, state27A_v, authOpen_v, rauthOpen_v, authUsable_v, rauthUsable_v, authClear_v, rauthClear_v, tolValid_v, rtolValid_v, allowed_v, rallowed_v, checkPres_v, rable_v, apply_v, rapply_v, hlt, h2, opens, List.append_nil]
    exact ⟨B, ho, SubA.left _ _, hnb.right, hnb⟩
  | cons a l ih =>
    obtain ⟨ha, hl2, h3'⟩ := drop_some h3
    have hlt : ((e : Int) < (L.length : Int)) = True := by simp; omega
    have we : IntKind.i64.wrap ((e : Int) + 1) = ((e + 1 : Nat) : Int) := by rw [w_i64 (by omega) (by omega)]; omega
    obtain ⟨b, off, cs, ty, fr0, hp0, hb, hc, hc2⟩ := hL.at ha
    subst hp0
    have hi : cs[off + e * 10]? = some (.string a.id) := by simpa using hc2 0 _ rfl
    have hza := hz a (List.mem_of_getElem? ha)
    have hb2 : Vm.look (B ++ A) b = some (.cells cs ty fr0) := hnb.right _ _ hb
    refine LoopA.intro (by kernel_rfl) ?_
    intro ν fr; have nuE := fr.nu
    have k0 := look_ne (fr.2 0) hb2
    have k1 := look_ne (fr.2 1) hb2
    by_cases hq : 0 < openA a
    · have hq' := hq
      unfold openA at hq'
      simp (maxDischargeDepth := 16) only [argE_nil, argE_cons, ↓vmD, vmV, vmStd, Nat.reduceMul, ↓reduceIte, Nat.reduceAdd, Nat.reduceSub, Nat.reduceEqDiff, Nat.reduceLT, Nat.reduceLeDiff, reduceCtorEq, Int.reduceToNat, Int.reduceLT, Int.reduceLE, Int.reduceEq, Int.reduceNeg, Int.reduceBEq, Int.reduceBNe, String.reduceEq, forall_const, ↓vmDA, vmVA, ↓vmQA, vmR, vmRA, ↓vmSA, vmSV, tyS, nuE, SubA.skip, SubA.refl, fr.2, slIndexByte_v, indexByte_v, indexRune_v, containsRune_v, classOf_v, isWordByte_v, letter_v, digit_v, wordAt_v, rword_v, isName_v, risName_v, recId_v, authId_v, rId13_v, rId27_v, moneyCur_v, authCur_v, rCur27_v, rCur01_v, isPart_v, authCheck_v, inTotal_v, rwithin1_v, exCard_v, recCheck_v, rrecCheck_v, within27_v, rauthCheck_v, fundsA_v, settledA_v, state27A_v, authOpen_v, rauthOpen_v, authUsable_v, rauthUsable_v, authClear_v, rauthClear_v, tolValid_v, rtolValid_v, allowed_v, rallowed_v, checkPres_v, rable_v, apply_v, rapply_v, hlt, hb2, k0, k1, hc, hi, au_agg, hza, hq', we, sc_str]
      refine append_src (m := 1) (news := [.string a.id]) slc63 zro9 rfl (by decide) ho (SubA.skip ((SubA.left B A).none (fr.2 1)) (SubA.skip ((SubA.left B A).none (fr.2 0)) (SubA.left _ _))) (.inr ⟨_, 0, rfl, by simp (maxDischargeDepth := 16) only [argE_nil, argE_cons, ↓vmD, vmV, vmStd, Nat.reduceMul, ↓reduceIte, Nat.reduceAdd, Nat.reduceSub, Nat.reduceEqDiff, Nat.reduceLT, Nat.reduceLeDiff, reduceCtorEq, Int.reduceToNat, Int.reduceLT, Int.reduceLE, Int.reduceEq, Int.reduceNeg, Int.reduceBEq, Int.reduceBNe, String.reduceEq, forall_const, ↓vmDA, vmVA, ↓vmQA, vmR, vmRA, ↓vmSA, vmSV, tyS, nuE, slIndexByte_v, indexByte_v, indexRune_v, containsRune_v, classOf_v, isWordByte_v, letter_v, digit_v, wordAt_v, rword_v, isName_v, risName_v, recId_v, authId_v, rId13_v, rId27_v, moneyCur_v, authCur_v, rCur27_v, rCur01_v, isPart_v, authCheck_v, inTotal_v, rwithin1_v, exCard_v, recCheck_v, rrecCheck_v, within27_v, rauthCheck_v, fundsA_v, settledA_v, state27A_v, authOpen_v, rauthOpen_v, authUsable_v, rauthUsable_v, authClear_v, rauthClear_v, tolValid_v, rtolValid_v, allowed_v, rallowed_v, checkPres_v, rable_v, apply_v, rapply_v]⟩) (by simp [Value.oneCell']) (by simp [maxLen]; omega) (by omega) ?_
      intro v' B' ho' hb'
      intro ν' fr'
      have nb' : Dis B' A := ap_dis hb' hnb (SubA.skip (hnb.right.none (fr.2 1)) (SubA.skip (hnb.right.none (fr.2 0)) hnb.right))
      have nuE0 := nuE
      have nuE := fr'.nu
      simp (maxDischargeDepth := 16) only [argE_nil, argE_cons, ↓vmD, vmV, vmStd, Nat.reduceMul, ↓reduceIte, Nat.reduceAdd, Nat.reduceSub, Nat.reduceEqDiff, Nat.reduceLT, Nat.reduceLeDiff, reduceCtorEq, Int.reduceToNat, Int.reduceLT, Int.reduceLE, Int.reduceEq, Int.reduceNeg, Int.reduceBEq, Int.reduceBNe, String.reduceEq, forall_const, ↓vmDA, vmVA, ↓vmQA, vmR, vmRA, ↓vmSA, vmSV, tyS, nuE, slIndexByte_v, indexByte_v, indexRune_v, containsRune_v, classOf_v, isWordByte_v, letter_v, digit_v, wordAt_v, rword_v, isName_v, risName_v, recId_v, authId_v, rId13_v, rId27_v, moneyCur_v, authCur_v, rCur27_v, rCur01_v, isPart_v, authCheck_v, inTotal_v, rwithin1_v, exCard_v, recCheck_v, rrecCheck_v, within27_v, rauthCheck_v, fundsA_v, settledA_v, state27A_v, authOpen_v, rauthOpen_v, authUsable_v, rauthUsable_v, authClear_v, rauthClear_v, tolValid_v, rtolValid_v, allowed_v, rallowed_v, checkPres_v, rable_v, apply_v, rapply_v, hlt, we]
      refine LoopA.weak (ih (e + 1) v' B' (dn ++ [a.id]) (by rw [h2]; simp only [opens, hq, if_true, List.append_assoc, List.cons_append, List.nil_append]) (by simpa [OwnL, strC] using ho') nb' h3' (by simp; omega)) (by simp only [subE, get_cons, Nat.reduceEqDiff, ↓reduceIte, reduceCtorEq, Nat.reduceAdd, and_self, and_true]) (SubA.both (SubA.left _ _) (nb'.sub (SubA.skip (hnb.right.none (fr.2 1)) (SubA.skip (hnb.right.none (fr.2 0)) hnb.right))))
    · have hq' := hq
      unfold openA at hq'
      simp (maxDischargeDepth := 16) only [argE_nil, argE_cons, ↓vmD, vmV, vmStd, Nat.reduceMul, ↓reduceIte, Nat.reduceAdd, Nat.reduceSub, Nat.reduceEqDiff, Nat.reduceLT, Nat.reduceLeDiff, reduceCtorEq, Int.reduceToNat, Int.reduceLT, Int.reduceLE, Int.reduceEq, Int.reduceNeg, Int.reduceBEq, Int.reduceBNe, String.reduceEq, forall_const, ↓vmDA, vmVA, ↓vmQA, vmR, vmRA, ↓vmSA, vmSV, tyS, nuE, SubA.skip, SubA.refl, fr.2, slIndexByte_v, indexByte_v, indexRune_v, containsRune_v, classOf_v, isWordByte_v, letter_v, digit_v, wordAt_v, rword_v, isName_v, risName_v, recId_v, authId_v, rId13_v, rId27_v, moneyCur_v, authCur_v, rCur27_v, rCur01_v, isPart_v, authCheck_v, inTotal_v, rwithin1_v, exCard_v, recCheck_v, rrecCheck_v, within27_v, rauthCheck_v, fundsA_v, settledA_v, state27A_v, authOpen_v, rauthOpen_v, authUsable_v, rauthUsable_v, authClear_v, rauthClear_v, tolValid_v, rtolValid_v, allowed_v, rallowed_v, checkPres_v, rable_v, apply_v, rapply_v, hlt, hb2, k0, k1, hc, hi, au_agg, hza, hq', we]
      exact LoopA.weak (ih (e + 1) v B dn (by rw [h2]; simp only [opens, hq, if_false]) ho hnb h3' (by omega)) (by simp only [subE, get_cons, Nat.reduceEqDiff, ↓reduceIte, reduceCtorEq, Nat.reduceAdd, and_self, and_true]) (SubA.skip (fr.2 0) (SubA.refl _))

theorem runmatchedR_h (A : AH) (L : List Au) (p : Option Addr) (cap : Nat) (hL : StR Au.cells 10 A p L) (hl : L.length ≤ 1000000) (hz : ∀ a ∈ L, a.id.size ≤ 100000 ∧ a.cu.size ≤ 100000) : CallA Try.prog 24 #[.slice p L.length cap] A (fun u_ A_ => ∃ B, OwnL strC 1 9 u_ B (opens L) ∧ SubA B A_ ∧ SubA A A_ ∧ Dis B A) := by
  refine callA_of_denA ⟨Try.prog, 24, Try.f24, 26, [0, 2, 3, 4], [], [], _⟩ (args := [_]) Try.func24 rfl (by kernel_rfl) Try.ntmps24 (by simp) (by kernel_rfl) ?_
  intro ν fr; have nuE := fr.nu
  simp (maxDischargeDepth := 16) only [argE_nil, argE_cons, ↓vmD, vmV, vmStd, Nat.reduceMul, ↓reduceIte, Nat.reduceAdd, Nat.reduceSub, Nat.reduceEqDiff, Nat.reduceLT, Nat.reduceLeDiff, reduceCtorEq, Int.reduceToNat, Int.reduceLT, Int.reduceLE, Int.reduceEq, Int.reduceNeg, Int.reduceBEq, Int.reduceBNe, String.reduceEq, forall_const, ↓vmDA, vmVA, ↓vmQA, vmR, vmRA, ↓vmSA, vmSV, tyS, nuE, slIndexByte_v, indexByte_v, indexRune_v, containsRune_v, classOf_v, isWordByte_v, letter_v, digit_v, wordAt_v, rword_v, isName_v, risName_v, recId_v, authId_v, rId13_v, rId27_v, moneyCur_v, authCur_v, rCur27_v, rCur01_v, isPart_v, authCheck_v, inTotal_v, rwithin1_v, exCard_v, recCheck_v, rrecCheck_v, within27_v, rauthCheck_v, fundsA_v, settledA_v, state27A_v, authOpen_v, rauthOpen_v, authUsable_v, rauthUsable_v, authClear_v, rauthClear_v, tolValid_v, rtolValid_v, allowed_v, rallowed_v, checkPres_v, rable_v, apply_v, rapply_v]
  obtain ⟨e, l, v, B, dn, he, hv, hB, h2, ho, hnb, h3⟩ : ∃ (e : Nat) (l : List Au) (v : Value) (B : AH) (dn : List ByteArray), e = 0 ∧ v = .slice none 0 0 ∧ B = [] ∧ opens L = dn ++ opens l ∧ OwnL strC 1 9 v B dn ∧ Dis B A ∧ l = L.drop e := ⟨0, L, _, [], [], rfl, rfl, rfl, rfl, OwnL.nil _ _ _, Dis.nil _, by simp⟩
  have hdn : dn.length ≤ e := by
    obtain ⟨q, c, h1, _⟩ := OwnL.slice ho
    rw [hv] at h1
    simp only [Value.slice.injEq] at h1
    omega
  rw [show (4, some (Value.int .i64 0)) = (4, some (Value.int .i64 (e : Int))) by rw [he]; rfl]
  rw [show (3, some (Value.slice none 0 0)) = (3, some v) by rw [hv]]
  refine LoopA.at (A := B ++ A) (by rw [hB]; exact SubA.refl _) ?_
  clear he hv hB nuE fr
  induction l generalizing e v B dn with
  | nil =>
    have hle := drop_nil h3
    have hlt : ((e : Int) < (L.length : Int)) = False := by simp; omega
    refine LoopA.intro (by kernel_rfl) ?_
    intro ν fr; have nuE := fr.nu
    simp (maxDischargeDepth := 16) only [argE_nil, argE_cons, ↓vmD, vmV, vmStd, Nat.reduceMul, ↓reduceIte, Nat.reduceAdd, Nat.reduceSub, Nat.reduceEqDiff, Nat.reduceLT, Nat.reduceLeDiff, reduceCtorEq, Int.reduceToNat, Int.reduceLT, Int.reduceLE, Int.reduceEq, Int.reduceNeg, Int.reduceBEq, Int.reduceBNe, String.reduceEq, forall_const, ↓vmDA, vmVA, ↓vmQA, vmR, vmRA, ↓vmSA, vmSV, tyS, nuE, slIndexByte_v, indexByte_v, indexRune_v, containsRune_v, classOf_v, isWordByte_v, letter_v, digit_v, wordAt_v, rword_v, isName_v, risName_v, recId_v, authId_v, rId13_v, rId27_v, moneyCur_v, authCur_v, rCur27_v, rCur01_v, isPart_v, authCheck_v, inTotal_v, rwithin1_v, exCard_v, recCheck_v, rrecCheck_v, within27_v, rauthCheck_v, fundsA_v, settledA_v, state27A_v, authOpen_v, rauthOpen_v, authUsable_v, rauthUsable_v, authClear_v, rauthClear_v, tolValid_v, rtolValid_v, allowed_v, rallowed_v, checkPres_v, rable_v, apply_v, rapply_v, hlt, h2, opens, List.append_nil]
    exact ⟨B, ho, SubA.left _ _, hnb.right, hnb⟩
  | cons a l ih =>
    obtain ⟨ha, hl2, h3'⟩ := drop_some h3
    have hlt : ((e : Int) < (L.length : Int)) = True := by simp; omega
    have we : IntKind.i64.wrap ((e : Int) + 1) = ((e + 1 : Nat) : Int) := by rw [w_i64 (by omega) (by omega)]; omega
    obtain ⟨b, off, cs, ty, fr0, hp0, hb, hc, hc2⟩ := hL.at ha
    subst hp0
    have hi : cs[off + e * 10]? = some (.string a.id) := by simpa using hc2 0 _ rfl
    have hza := hz a (List.mem_of_getElem? ha)
    have hb2 : Vm.look (B ++ A) b = some (.cells cs ty fr0) := hnb.right _ _ hb
    refine LoopA.intro (by kernel_rfl) ?_
    intro ν fr; have nuE := fr.nu
    have k0 := look_ne (fr.2 0) hb2
    have k1 := look_ne (fr.2 1) hb2
    by_cases hq : 0 < openA a
    · have hq' := hq
      unfold openA at hq'
      simp (maxDischargeDepth := 16) only [argE_nil, argE_cons, ↓vmD, vmV, vmStd, Nat.reduceMul, ↓reduceIte, Nat.reduceAdd, Nat.reduceSub, Nat.reduceEqDiff, Nat.reduceLT, Nat.reduceLeDiff, reduceCtorEq, Int.reduceToNat, Int.reduceLT, Int.reduceLE, Int.reduceEq, Int.reduceNeg, Int.reduceBEq, Int.reduceBNe, String.reduceEq, forall_const, ↓vmDA, vmVA, ↓vmQA, vmR, vmRA, ↓vmSA, vmSV, tyS, nuE, SubA.skip, SubA.refl, fr.2, slIndexByte_v, indexByte_v, indexRune_v, containsRune_v, classOf_v, isWordByte_v, letter_v, digit_v, wordAt_v, rword_v, isName_v, risName_v, recId_v, authId_v, rId13_v, rId27_v, moneyCur_v, authCur_v, rCur27_v, rCur01_v, isPart_v, authCheck_v, inTotal_v, rwithin1_v, exCard_v, recCheck_v, rrecCheck_v, within27_v, rauthCheck_v, fundsA_v, settledA_v, state27A_v, authOpen_v, rauthOpen_v, authUsable_v, rauthUsable_v, authClear_v, rauthClear_v, tolValid_v, rtolValid_v, allowed_v, rallowed_v, checkPres_v, rable_v, apply_v, rapply_v, hlt, hb2, k0, k1, hc, hi, au_agg, hza, hq', we, sc_str]
      refine append_src (m := 1) (news := [.string a.id]) slc63 zro9 rfl (by decide) ho (SubA.skip ((SubA.left B A).none (fr.2 0)) (SubA.left _ _)) (.inr ⟨_, 0, rfl, by simp (maxDischargeDepth := 16) only [argE_nil, argE_cons, ↓vmD, vmV, vmStd, Nat.reduceMul, ↓reduceIte, Nat.reduceAdd, Nat.reduceSub, Nat.reduceEqDiff, Nat.reduceLT, Nat.reduceLeDiff, reduceCtorEq, Int.reduceToNat, Int.reduceLT, Int.reduceLE, Int.reduceEq, Int.reduceNeg, Int.reduceBEq, Int.reduceBNe, String.reduceEq, forall_const, ↓vmDA, vmVA, ↓vmQA, vmR, vmRA, ↓vmSA, vmSV, tyS, nuE, slIndexByte_v, indexByte_v, indexRune_v, containsRune_v, classOf_v, isWordByte_v, letter_v, digit_v, wordAt_v, rword_v, isName_v, risName_v, recId_v, authId_v, rId13_v, rId27_v, moneyCur_v, authCur_v, rCur27_v, rCur01_v, isPart_v, authCheck_v, inTotal_v, rwithin1_v, exCard_v, recCheck_v, rrecCheck_v, within27_v, rauthCheck_v, fundsA_v, settledA_v, state27A_v, authOpen_v, rauthOpen_v, authUsable_v, rauthUsable_v, authClear_v, rauthClear_v, tolValid_v, rtolValid_v, allowed_v, rallowed_v, checkPres_v, rable_v, apply_v, rapply_v]⟩) (by simp [Value.oneCell']) (by simp [maxLen]; omega) (by omega) ?_
      intro v' B' ho' hb'
      intro ν' fr'
      have nb' : Dis B' A := ap_dis hb' hnb (SubA.skip (hnb.right.none (fr.2 0)) hnb.right)
      have nuE0 := nuE
      have nuE := fr'.nu
      simp (maxDischargeDepth := 16) only [argE_nil, argE_cons, ↓vmD, vmV, vmStd, Nat.reduceMul, ↓reduceIte, Nat.reduceAdd, Nat.reduceSub, Nat.reduceEqDiff, Nat.reduceLT, Nat.reduceLeDiff, reduceCtorEq, Int.reduceToNat, Int.reduceLT, Int.reduceLE, Int.reduceEq, Int.reduceNeg, Int.reduceBEq, Int.reduceBNe, String.reduceEq, forall_const, ↓vmDA, vmVA, ↓vmQA, vmR, vmRA, ↓vmSA, vmSV, tyS, nuE, slIndexByte_v, indexByte_v, indexRune_v, containsRune_v, classOf_v, isWordByte_v, letter_v, digit_v, wordAt_v, rword_v, isName_v, risName_v, recId_v, authId_v, rId13_v, rId27_v, moneyCur_v, authCur_v, rCur27_v, rCur01_v, isPart_v, authCheck_v, inTotal_v, rwithin1_v, exCard_v, recCheck_v, rrecCheck_v, within27_v, rauthCheck_v, fundsA_v, settledA_v, state27A_v, authOpen_v, rauthOpen_v, authUsable_v, rauthUsable_v, authClear_v, rauthClear_v, tolValid_v, rtolValid_v, allowed_v, rallowed_v, checkPres_v, rable_v, apply_v, rapply_v, hlt, we]
      refine LoopA.weak (ih (e + 1) v' B' (dn ++ [a.id]) (by rw [h2]; simp only [opens, hq, if_true, List.append_assoc, List.cons_append, List.nil_append]) (by simpa [OwnL, strC] using ho') nb' h3' (by simp; omega)) (by simp only [subE, get_cons, Nat.reduceEqDiff, ↓reduceIte, reduceCtorEq, Nat.reduceAdd, and_self, and_true]) (SubA.both (SubA.left _ _) (nb'.sub (SubA.skip (hnb.right.none (fr.2 0)) hnb.right)))
    · have hq' := hq
      unfold openA at hq'
      simp (maxDischargeDepth := 16) only [argE_nil, argE_cons, ↓vmD, vmV, vmStd, Nat.reduceMul, ↓reduceIte, Nat.reduceAdd, Nat.reduceSub, Nat.reduceEqDiff, Nat.reduceLT, Nat.reduceLeDiff, reduceCtorEq, Int.reduceToNat, Int.reduceLT, Int.reduceLE, Int.reduceEq, Int.reduceNeg, Int.reduceBEq, Int.reduceBNe, String.reduceEq, forall_const, ↓vmDA, vmVA, ↓vmQA, vmR, vmRA, ↓vmSA, vmSV, tyS, nuE, SubA.skip, SubA.refl, fr.2, slIndexByte_v, indexByte_v, indexRune_v, containsRune_v, classOf_v, isWordByte_v, letter_v, digit_v, wordAt_v, rword_v, isName_v, risName_v, recId_v, authId_v, rId13_v, rId27_v, moneyCur_v, authCur_v, rCur27_v, rCur01_v, isPart_v, authCheck_v, inTotal_v, rwithin1_v, exCard_v, recCheck_v, rrecCheck_v, within27_v, rauthCheck_v, fundsA_v, settledA_v, state27A_v, authOpen_v, rauthOpen_v, authUsable_v, rauthUsable_v, authClear_v, rauthClear_v, tolValid_v, rtolValid_v, allowed_v, rallowed_v, checkPres_v, rable_v, apply_v, rapply_v, hlt, hb2, k0, k1, hc, hi, au_agg, hza, hq', we]
      exact LoopA.weak (ih (e + 1) v B dn (by rw [h2]; simp only [opens, hq, if_false]) ho hnb h3' (by omega)) (by simp only [subE, get_cons, Nat.reduceEqDiff, ↓reduceIte, reduceCtorEq, Nat.reduceAdd, and_self, and_true]) (SubA.refl _)

end Go.Proofs.Ythahheeahdhepaa
