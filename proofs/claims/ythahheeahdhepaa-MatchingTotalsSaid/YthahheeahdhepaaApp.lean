/-
MatchingApplies: the walk.
Conditions: none.
-/
import Derived.Test.YthahheeahdhepaaAwk
namespace Go.Proofs.Ythahheeahdhepaa
open Go.Vm
set_option linter.unusedSimpArgs false
set_option linter.unusedVariables false
set_option maxHeartbeats 4000000
set_option maxRecDepth 20000
def shA (id cu : ByteArray) : Bool := decide (id.size ≤ 100) && decide (cu.size ≤ 100)
def shR (rid rau aq is me ca rcu : ByteArray) : Bool := decide (rid.size ≤ 100) && (decide (rau.size ≤ 100) && (decide (aq.size ≤ 100) && (decide (is.size ≤ 100) && (decide (me.size ≤ 100) && (decide (ca.size ≤ 100) && decide (rcu.size ≤ 100))))))
theorem le100 (s : ByteArray) : ((s.size : Int) ≤ 100) = (s.size ≤ 100) := propext (by omega)
theorem short35_h (id cu : ByteArray) (ap rv cl ex st tm un pa : Int) : CallA Try.prog 7 #[.agg #[.string id, .string cu, .int .i64 ap, .int .i64 rv, .int .i64 cl, .int .i64 ex, .int .i64 st, .int .i64 tm, .int .i64 un, .int .i64 pa]] [] (fun u_ _ => u_ = .bool (shA id cu)) := by
  refine callA_of_denA ⟨Try.prog, 7, Try.f7, 13, [0, 1, 2], [], [], _⟩ (args := [_]) Try.func7 rfl (by kernel_rfl) Try.ntmps7 (by simp) (by kernel_rfl) ?_
  intro ν fr; have nuE := fr.nu
  simp (maxDischargeDepth := 16) only [argE_nil, argE_cons, ↓vmD, vmV, vmStd, Nat.reduceMul, ↓reduceIte, Nat.reduceAdd, Nat.reduceSub, Nat.reduceEqDiff, Nat.reduceLT, Nat.reduceLeDiff, reduceCtorEq, Int.reduceToNat, Int.reduceLT, Int.reduceLE, Int.reduceEq, Int.reduceNeg, Int.reduceBEq, Int.reduceBNe, String.reduceEq, forall_const, ↓vmDA, vmVA, ↓vmQA, vmR, vmRA, ↓vmSA, vmSV, tyS, nuE, slIndexByte_v, indexByte_v, indexRune_v, containsRune_v, classOf_v, isWordByte_v, letter_v, digit_v, wordAt_v, rword_v, isName_v, risName_v, recId_v, authId_v, rId13_v, rId27_v, moneyCur_v, authCur_v, rCur27_v, rCur01_v, isPart_v, authCheck_v, inTotal_v, rwithin1_v, exCard_v, recCheck_v, rrecCheck_v, within27_v, rauthCheck_v, fundsA_v, settledA_v, state27A_v, authOpen_v, rauthOpen_v, authUsable_v, rauthUsable_v, authClear_v, rauthClear_v, tolValid_v, rtolValid_v, allowed_v, rallowed_v, checkPres_v, rable_v, apply_v, rapply_v, present_v, awake_v, le100, shA]
  all_goals ((repeat' split) <;> (try simp_all) <;> (try omega))
theorem short35_v (id cu : ByteArray) (ap rv cl ex st tm un pa : Int) (A_ : AH) : valA Try.prog 7 #[.agg #[.string id, .string cu, .int .i64 ap, .int .i64 rv, .int .i64 cl, .int .i64 ex, .int .i64 st, .int .i64 tm, .int .i64 un, .int .i64 pa]] A_ = some (.bool (shA id cu)) := valA_eq (pureA_of (by kernel_rfl) (short35_h id cu ap rv cl ex st tm un pa))
theorem short32_h (kd : Int) (rid rau aq is me ca : ByteArray) (am : Int) (rcu : ByteArray) (da ct : Int) (fi : Bool) : CallA Try.prog 8 #[.agg #[.int .i64 kd, .string rid, .string rau, .string aq, .string is, .string me, .string ca, .int .i64 am, .string rcu, .int .i64 da, .int .i64 ct, .bool fi]] [] (fun u_ _ => u_ = .bool (shR rid rau aq is me ca rcu)) := by
  refine callA_of_denA ⟨Try.prog, 8, Try.f8, 44, [0, 1, 2], [], [], _⟩ (args := [_]) Try.func8 rfl (by kernel_rfl) Try.ntmps8 (by simp) (by kernel_rfl) ?_
  intro ν fr; have nuE := fr.nu
  simp (maxDischargeDepth := 16) only [argE_nil, argE_cons, ↓vmD, vmV, vmStd, Nat.reduceMul, ↓reduceIte, Nat.reduceAdd, Nat.reduceSub, Nat.reduceEqDiff, Nat.reduceLT, Nat.reduceLeDiff, reduceCtorEq, Int.reduceToNat, Int.reduceLT, Int.reduceLE, Int.reduceEq, Int.reduceNeg, Int.reduceBEq, Int.reduceBNe, String.reduceEq, forall_const, ↓vmDA, vmVA, ↓vmQA, vmR, vmRA, ↓vmSA, vmSV, tyS, nuE, slIndexByte_v, indexByte_v, indexRune_v, containsRune_v, classOf_v, isWordByte_v, letter_v, digit_v, wordAt_v, rword_v, isName_v, risName_v, recId_v, authId_v, rId13_v, rId27_v, moneyCur_v, authCur_v, rCur27_v, rCur01_v, isPart_v, authCheck_v, inTotal_v, rwithin1_v, exCard_v, recCheck_v, rrecCheck_v, within27_v, rauthCheck_v, fundsA_v, settledA_v, state27A_v, authOpen_v, rauthOpen_v, authUsable_v, rauthUsable_v, authClear_v, rauthClear_v, tolValid_v, rtolValid_v, allowed_v, rallowed_v, checkPres_v, rable_v, apply_v, rapply_v, present_v, awake_v, short35_v, le100, shR, Bool.and_assoc]
  all_goals ((repeat' split) <;> (try simp_all) <;> (try omega))
theorem short32_v (kd : Int) (rid rau aq is me ca : ByteArray) (am : Int) (rcu : ByteArray) (da ct : Int) (fi : Bool) (A_ : AH) : valA Try.prog 8 #[.agg #[.int .i64 kd, .string rid, .string rau, .string aq, .string is, .string me, .string ca, .int .i64 am, .string rcu, .int .i64 da, .int .i64 ct, .bool fi]] A_ = some (.bool (shR rid rau aq is me ca rcu)) := valA_eq (pureA_of (by kernel_rfl) (short32_h kd rid rau aq is me ca am rcu da ct fi))
theorem hrd0 (a : Au) : ∀ i b, [a][i]? = some b → rdCS (some (.cells (Au.cells a).toArray 23)) (i * 10) 10 = some (Au.cells b).toArray
  | 0, _, h => by cases h; rfl
  | i + 1, _, h => by simp at h
theorem mt1 (b : Nat) (A : AH) (id cu : ByteArray) (ap rv cl ex st tm un pa : Int) (h1 : id.size ≤ 100000) (h2 : cu.size ≤ 100000) (kd : Int) (rid rau aq is me ca : ByteArray) (am : Int) (rcu : ByteArray) (da ct : Int) (fi : Bool) (z1 : rid.size ≤ 100000) (z2 : rau.size ≤ 100000) (z3 : aq.size ≤ 100000) (z4 : is.size ≤ 100000) (z5 : me.size ≤ 100000) (z6 : ca.size ≤ 100000) (z7 : rcu.size ≤ 100000) (tb tf : Int) (h : SubE [(b, .cells #[.string id, .string cu, .int .i64 ap, .int .i64 rv, .int .i64 cl, .int .i64 ex, .int .i64 st, .int .i64 tm, .int .i64 un, .int .i64 pa] 23)] A) : valA Try.prog 14 #[.slice (some ⟨b, 0, none⟩) 1 1, .agg #[.int .i64 kd, .string rid, .string rau, .string aq, .string is, .string me, .string ca, .int .i64 am, .string rcu, .int .i64 da, .int .i64 ct, .bool fi], .agg #[.int .i64 tb, .int .i64 tf]] A = some (.tuple #[.int .i64 (matI [⟨id, cu, ap, rv, cl, ex, st, tm, un, pa⟩] kd rid rau aq is me ca am rcu da ct fi tb tf).1, .int .i64 (matI [⟨id, cu, ap, rv, cl, ex, st, tm, un, pa⟩] kd rid rau aq is me ca am rcu da ct fi tb tf).2]) :=
  mtch_v [⟨id, cu, ap, rv, cl, ex, st, tm, un, pa⟩] b 1 _ (hrd0 _) (by simp) kd rid rau aq is me ca am rcu da ct fi tb tf z1 z2 z3 z4 z5 z6 z7 (by intro a ha; simp at ha; subst ha; exact ⟨h1, h2⟩) A h
theorem mt2 (b : Nat) (A : AH) (id cu : ByteArray) (ap rv cl ex st tm un pa : Int) (h1 : id.size ≤ 100000) (h2 : cu.size ≤ 100000) (kd : Int) (rid rau aq is me ca : ByteArray) (am : Int) (rcu : ByteArray) (da ct : Int) (fi : Bool) (z1 : rid.size ≤ 100000) (z2 : rau.size ≤ 100000) (z3 : aq.size ≤ 100000) (z4 : is.size ≤ 100000) (z5 : me.size ≤ 100000) (z6 : ca.size ≤ 100000) (z7 : rcu.size ≤ 100000) (tb tf : Int) (h : SubE [(b, .cells #[.string id, .string cu, .int .i64 ap, .int .i64 rv, .int .i64 cl, .int .i64 ex, .int .i64 st, .int .i64 tm, .int .i64 un, .int .i64 pa] 23)] A) : valA Try.prog 15 #[.slice (some ⟨b, 0, none⟩) 1 1, .agg #[.int .i64 kd, .string rid, .string rau, .string aq, .string is, .string me, .string ca, .int .i64 am, .string rcu, .int .i64 da, .int .i64 ct, .bool fi], .agg #[.int .i64 tb, .int .i64 tf]] A = some (.tuple #[.int .i64 (matI [⟨id, cu, ap, rv, cl, ex, st, tm, un, pa⟩] kd rid rau aq is me ca am rcu da ct fi tb tf).1, .int .i64 (matI [⟨id, cu, ap, rv, cl, ex, st, tm, un, pa⟩] kd rid rau aq is me ca am rcu da ct fi tb tf).2]) :=
  rmtch_v [⟨id, cu, ap, rv, cl, ex, st, tm, un, pa⟩] b 1 _ (hrd0 _) (by simp) kd rid rau aq is me ca am rcu da ct fi tb tf z1 z2 z3 z4 z5 z6 z7 (by intro a ha; simp at ha; subst ha; exact ⟨h1, h2⟩) A h
theorem applies_h (n : Int) (id cu : ByteArray) (ap rv cl ex st tm un pa : Int) (kd : Int) (rid rau aq is me ca : ByteArray) (am : Int) (rcu : ByteArray) (da ct : Int) (fi : Bool) (tb tf : Int) : CallA Try.prog 3 #[.int .i64 n, .agg #[.string id, .string cu, .int .i64 ap, .int .i64 rv, .int .i64 cl, .int .i64 ex, .int .i64 st, .int .i64 tm, .int .i64 un, .int .i64 pa], .agg #[.int .i64 kd, .string rid, .string rau, .string aq, .string is, .string me, .string ca, .int .i64 am, .string rcu, .int .i64 da, .int .i64 ct, .bool fi], .agg #[.int .i64 tb, .int .i64 tf]] [] (fun u_ _ => u_ = .bool true) := by
  refine callA_of_denA ⟨Try.prog, 3, Try.f3, 103, [0, 1, 2, 3, 5, 6, 7, 8, 9, 10, 11, 12, 13, 14, 15, 16, 17, 18, 19, 20], [], [], _⟩ (args := [_, _, _, _]) Try.func3 rfl (by kernel_rfl) Try.ntmps3 (by simp) (by kernel_rfl) ?_
  intro ν fr; have nuE := fr.nu
  cases hs : shA id cu with
  | false => simp (maxDischargeDepth := 16) only [argE_nil, argE_cons, ↓vmD, vmV, vmStd, Nat.reduceMul, ↓reduceIte, Nat.reduceAdd, Nat.reduceSub, Nat.reduceEqDiff, Nat.reduceLT, Nat.reduceLeDiff, reduceCtorEq, Int.reduceToNat, Int.reduceLT, Int.reduceLE, Int.reduceEq, Int.reduceNeg, Int.reduceBEq, Int.reduceBNe, String.reduceEq, forall_const, ↓vmDA, vmVA, ↓vmQA, vmR, vmRA, ↓vmSA, vmSV, tyS, nuE, slIndexByte_v, indexByte_v, indexRune_v, containsRune_v, classOf_v, isWordByte_v, letter_v, digit_v, wordAt_v, rword_v, isName_v, risName_v, recId_v, authId_v, rId13_v, rId27_v, moneyCur_v, authCur_v, rCur27_v, rCur01_v, isPart_v, authCheck_v, inTotal_v, rwithin1_v, exCard_v, recCheck_v, rrecCheck_v, within27_v, rauthCheck_v, fundsA_v, settledA_v, state27A_v, authOpen_v, rauthOpen_v, authUsable_v, rauthUsable_v, authClear_v, rauthClear_v, tolValid_v, rtolValid_v, allowed_v, rallowed_v, checkPres_v, rable_v, apply_v, rapply_v, present_v, awake_v, short35_v, short32_v, hs]
  | true =>
    cases hr : shR rid rau aq is me ca rcu with
    | false => simp (maxDischargeDepth := 16) only [argE_nil, argE_cons, ↓vmD, vmV, vmStd, Nat.reduceMul, ↓reduceIte, Nat.reduceAdd, Nat.reduceSub, Nat.reduceEqDiff, Nat.reduceLT, Nat.reduceLeDiff, reduceCtorEq, Int.reduceToNat, Int.reduceLT, Int.reduceLE, Int.reduceEq, Int.reduceNeg, Int.reduceBEq, Int.reduceBNe, String.reduceEq, forall_const, ↓vmDA, vmVA, ↓vmQA, vmR, vmRA, ↓vmSA, vmSV, tyS, nuE, slIndexByte_v, indexByte_v, indexRune_v, containsRune_v, classOf_v, isWordByte_v, letter_v, digit_v, wordAt_v, rword_v, isName_v, risName_v, recId_v, authId_v, rId13_v, rId27_v, moneyCur_v, authCur_v, rCur27_v, rCur01_v, isPart_v, authCheck_v, inTotal_v, rwithin1_v, exCard_v, recCheck_v, rrecCheck_v, within27_v, rauthCheck_v, fundsA_v, settledA_v, state27A_v, authOpen_v, rauthOpen_v, authUsable_v, rauthUsable_v, authClear_v, rauthClear_v, tolValid_v, rtolValid_v, allowed_v, rallowed_v, checkPres_v, rable_v, apply_v, rapply_v, present_v, awake_v, short35_v, short32_v, hs, hr]
    | true =>
      have ⟨h1, h2⟩ : id.size ≤ 100000 ∧ cu.size ≤ 100000 := by simp [shA] at hs; omega
      have ⟨z1, z2, z3, z4, z5, z6, z7⟩ : rid.size ≤ 100000 ∧ rau.size ≤ 100000 ∧ aq.size ≤ 100000 ∧ is.size ≤ 100000 ∧ me.size ≤ 100000 ∧ ca.size ≤ 100000 ∧ rcu.size ≤ 100000 := by simp [shR] at hr; omega
      have m1 := fun b A => mt1 b A id cu ap rv cl ex st tm un pa h1 h2 kd rid rau aq is me ca am rcu da ct fi z1 z2 z3 z4 z5 z6 z7 tb tf
      have m2 := fun b A => mt2 b A id cu ap rv cl ex st tm un pa h1 h2 kd rid rau aq is me ca am rcu da ct fi z1 z2 z3 z4 z5 z6 z7 tb tf
      by_cases he : appE id cu ap rv cl ex st tm un pa kd rid rau aq is me ca am rcu da ct fi tb tf = 0
      · simp (maxDischargeDepth := 16) only [argE_nil, argE_cons, ↓vmD, vmV, vmStd, Nat.reduceMul, ↓reduceIte, Nat.reduceAdd, Nat.reduceSub, Nat.reduceEqDiff, Nat.reduceLT, Nat.reduceLeDiff, reduceCtorEq, Int.reduceToNat, Int.reduceLT, Int.reduceLE, Int.reduceEq, Int.reduceNeg, Int.reduceBEq, Int.reduceBNe, String.reduceEq, forall_const, ↓vmDA, vmVA, ↓vmQA, vmR, vmRA, ↓vmSA, vmSV, tyS, nuE, slIndexByte_v, indexByte_v, indexRune_v, containsRune_v, classOf_v, isWordByte_v, letter_v, digit_v, wordAt_v, rword_v, isName_v, risName_v, recId_v, authId_v, rId13_v, rId27_v, moneyCur_v, authCur_v, rCur27_v, rCur01_v, isPart_v, authCheck_v, inTotal_v, rwithin1_v, exCard_v, recCheck_v, rrecCheck_v, within27_v, rauthCheck_v, fundsA_v, settledA_v, state27A_v, authOpen_v, rauthOpen_v, authUsable_v, rauthUsable_v, authClear_v, rauthClear_v, tolValid_v, rtolValid_v, allowed_v, rallowed_v, checkPres_v, rable_v, apply_v, rapply_v, present_v, awake_v, short35_v, short32_v, hs, hr, h1, h2, z1, z2, z3, z4, z5, z6, z7, alwV_t, appV, appZ, appO, he, sc_au1, m1, m2]
      · simp (maxDischargeDepth := 16) only [argE_nil, argE_cons, ↓vmD, vmV, vmStd, Nat.reduceMul, ↓reduceIte, Nat.reduceAdd, Nat.reduceSub, Nat.reduceEqDiff, Nat.reduceLT, Nat.reduceLeDiff, reduceCtorEq, Int.reduceToNat, Int.reduceLT, Int.reduceLE, Int.reduceEq, Int.reduceNeg, Int.reduceBEq, Int.reduceBNe, String.reduceEq, forall_const, ↓vmDA, vmVA, ↓vmQA, vmR, vmRA, ↓vmSA, vmSV, tyS, nuE, slIndexByte_v, indexByte_v, indexRune_v, containsRune_v, classOf_v, isWordByte_v, letter_v, digit_v, wordAt_v, rword_v, isName_v, risName_v, recId_v, authId_v, rId13_v, rId27_v, moneyCur_v, authCur_v, rCur27_v, rCur01_v, isPart_v, authCheck_v, inTotal_v, rwithin1_v, exCard_v, recCheck_v, rrecCheck_v, within27_v, rauthCheck_v, fundsA_v, settledA_v, state27A_v, authOpen_v, rauthOpen_v, authUsable_v, rauthUsable_v, authClear_v, rauthClear_v, tolValid_v, rtolValid_v, allowed_v, rallowed_v, checkPres_v, rable_v, apply_v, rapply_v, present_v, awake_v, short35_v, short32_v, hs, hr, h1, h2, z1, z2, z3, z4, z5, z6, z7, alwV_t, appV, appZ, appO, he, sc_au1, m1, m2]
theorem applies_v (n : Int) (id cu : ByteArray) (ap rv cl ex st tm un pa : Int) (kd : Int) (rid rau aq is me ca : ByteArray) (am : Int) (rcu : ByteArray) (da ct : Int) (fi : Bool) (tb tf : Int) (A_ : AH) : valA Try.prog 3 #[.int .i64 n, .agg #[.string id, .string cu, .int .i64 ap, .int .i64 rv, .int .i64 cl, .int .i64 ex, .int .i64 st, .int .i64 tm, .int .i64 un, .int .i64 pa], .agg #[.int .i64 kd, .string rid, .string rau, .string aq, .string is, .string me, .string ca, .int .i64 am, .string rcu, .int .i64 da, .int .i64 ct, .bool fi], .agg #[.int .i64 tb, .int .i64 tf]] A_ = some (.bool true) := valA_eq (pureA_of (by kernel_rfl) (applies_h n id cu ap rv cl ex st tm un pa kd rid rau aq is me ca am rcu da ct fi tb tf))
theorem fitsA {h : Heap} {a : Array Value} (w : Fits h (.st 10 [(0, 1, .str), (1, 1, .str), (2, 1, .int .i64), (3, 1, .int .i64), (4, 1, .int .i64), (5, 1, .int .i64), (6, 1, .int .i64), (7, 1, .int .i64), (8, 1, .int .i64), (9, 1, .int .i64)]) a.toList) : ∃ id cu ap rv cl ex st tm un pa, a = #[.string id, .string cu, .int .i64 ap, .int .i64 rv, .int .i64 cl, .int .i64 ex, .int .i64 st, .int .i64 tm, .int .i64 un, .int .i64 pa] := by
  obtain ⟨l⟩ := a
  simp only [Fits, FitsL] at w
  obtain ⟨hl, w⟩ := w
  match l, hl with
  | [x0, x1, x2, x3, x4, x5, x6, x7, x8, x9], _ =>
    simp only [List.drop_succ_cons, List.drop_zero, List.take_succ_cons, List.take_zero, List.cons.injEq, and_true] at w
    obtain ⟨⟨_, rfl, _⟩, ⟨_, rfl, _⟩, ⟨_, rfl, _⟩, ⟨_, rfl, _⟩, ⟨_, rfl, _⟩, ⟨_, rfl, _⟩, ⟨_, rfl, _⟩, ⟨_, rfl, _⟩, ⟨_, rfl, _⟩, ⟨_, rfl, _⟩⟩ := w
    exact ⟨_, _, _, _, _, _, _, _, _, _, rfl⟩
theorem fitsR {h : Heap} {a : Array Value} (w : Fits h (.st 12 [(0, 1, .int .i64), (1, 1, .str), (2, 1, .str), (3, 1, .str), (4, 1, .str), (5, 1, .str), (6, 1, .str), (7, 2, .st 2 [(0, 1, .int .i64), (1, 1, .str)]), (9, 1, .int .i64), (10, 1, .int .i64), (11, 1, .bool)]) a.toList) : ∃ kd rid rau aq is me ca am rcu da ct fi, a = #[.int .i64 kd, .string rid, .string rau, .string aq, .string is, .string me, .string ca, .int .i64 am, .string rcu, .int .i64 da, .int .i64 ct, .bool fi] := by
  obtain ⟨l⟩ := a
  simp only [Fits, FitsL] at w
  obtain ⟨hl, w⟩ := w
  match l, hl with
  | [x0, x1, x2, x3, x4, x5, x6, x7, x8, x9, x10, x11], _ =>
    simp only [List.drop_succ_cons, List.drop_zero, List.take_succ_cons, List.take_zero, List.cons.injEq, and_true, List.length_cons, List.length_nil, true_and] at w
    obtain ⟨⟨_, rfl, _⟩, ⟨_, rfl, _⟩, ⟨_, rfl, _⟩, ⟨_, rfl, _⟩, ⟨_, rfl, _⟩, ⟨_, rfl, _⟩, ⟨_, rfl, _⟩, ⟨⟨_, rfl, _⟩, ⟨_, rfl, _⟩⟩, ⟨_, rfl, _⟩, ⟨_, rfl, _⟩, ⟨_, rfl⟩⟩ := w
    exact ⟨_, _, _, _, _, _, _, _, _, _, _, _, rfl⟩
theorem fitsT {h : Heap} {a : Array Value} (w : Fits h (.st 2 [(0, 1, .int .i64), (1, 1, .int .i64)]) a.toList) : ∃ b f, a = #[.int .i64 b, .int .i64 f] := by
  obtain ⟨l⟩ := a
  simp only [Fits, FitsL] at w
  obtain ⟨hl, w⟩ := w
  match l, hl with
  | [x0, x1], _ =>
    simp only [List.drop_succ_cons, List.drop_zero, List.take_succ_cons, List.take_zero, List.cons.injEq, and_true] at w
    obtain ⟨⟨_, rfl, _⟩, ⟨_, rfl, _⟩⟩ := w
    exact ⟨_, _, rfl⟩
/-- What is pure, from any heap. -/
theorem callsH_of_pure {P : Program} {g : FuncId} {args : Array Value} {A : AH} {v : Value} (hv : valA P g args A = some v) (hc : callable P g = true) {h : Heap} (hs : Sat A h) : CallsH P g args h fun e h' => e = .returned v ∧ Grew h h' := by
  have := (valA_out hv).2 h hs
  unfold RunC at this
  rwa [if_pos hc] at this
theorem applies_w (h : Heap) (n : Int) (wn : (Lit.int .i64 n).wf = true) (a : Array Value) (wa : Fits h (.st 10 [(0, 1, .str), (1, 1, .str), (2, 1, .int .i64), (3, 1, .int .i64), (4, 1, .int .i64), (5, 1, .int .i64), (6, 1, .int .i64), (7, 1, .int .i64), (8, 1, .int .i64), (9, 1, .int .i64)]) a.toList) (r : Array Value) (wr : Fits h (.st 12 [(0, 1, .int .i64), (1, 1, .str), (2, 1, .str), (3, 1, .str), (4, 1, .str), (5, 1, .str), (6, 1, .str), (7, 2, .st 2 [(0, 1, .int .i64), (1, 1, .str)]), (9, 1, .int .i64), (10, 1, .int .i64), (11, 1, .bool)]) r.toList) (t : Array Value) (wt : Fits h (.st 2 [(0, 1, .int .i64), (1, 1, .int .i64)]) t.toList) :
    CallsH Try.prog 3 #[.int .i64 n, .agg a, .agg r, .agg t] h fun e h' => e = .returned (.bool true) ∧ Grew h h' := by
  obtain ⟨id, cu, ap, rv, cl, ex, st, tm, un, pa, rfl⟩ := fitsA wa
  obtain ⟨kd, rid, rau, aq, is, me, ca, am, rcu, da, ct, fi, rfl⟩ := fitsR wr
  obtain ⟨tb, tf, rfl⟩ := fitsT wt
  exact callsH_of_pure (applies_v n id cu ap rv cl ex st tm un pa kd rid rau aq is me ca am rcu da ct fi tb tf []) (by kernel_rfl) (Sat.nil h)
end Go.Proofs.Ythahheeahdhepaa
