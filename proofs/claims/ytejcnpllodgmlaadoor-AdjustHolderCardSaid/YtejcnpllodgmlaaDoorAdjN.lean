/-
Adjustments: the walks of sums and of the party that has prevailed.
Conditions: none.
-/
import Derived.Test.YtejcnpllodgmlaaDoorAdjL
namespace Go.Proofs.YtejcnpllodgmlaaDoor
open Go.Vm
set_option linter.unusedSimpArgs false
set_option linter.unusedVariables false
set_option maxHeartbeats 4000000
set_option maxRecDepth 20000
theorem netN_b (x : Rc) : -999999999999 ≤ netN x ∧ netN x ≤ 999999999999 := by
  unfold netN
  split
  · omega
  split
  · omega
  split <;> omega
theorem netF_b : ∀ (L : List Rc), -999999999999 * (L.length : Int) ≤ netF L ∧ netF L ≤ 999999999999 * (L.length : Int)
  | [] => by simp [netF]
  | x :: l => by
    have h1 := netN_b x
    have h2 := netF_b l
    simp only [netF, List.length_cons]
    omega
theorem panNet_h (A : AH) (L : List Rc) (p : Option Addr) (cap : Nat) (hL : StR Rc.cells 12 A p L) (hl : L.length ≤ 3000) : CallA Tryd.prog 10 #[.slice p L.length cap] A (fun u_ A_ => u_ = .int .i64 (netF L) ∧ SubA A A_) := by
  refine callA_of_denA ⟨Tryd.prog, 10, Tryd.f10, 40, [0, 2, 3, 5, 6, 7, 8, 23], [], [], _⟩ (args := [_]) Tryd.func10 rfl (by kernel_rfl) Tryd.ntmps10 (by simp) (by kernel_rfl) ?_
  intro ν fr; have nuE := fr.nu
  simp (maxDischargeDepth := 16) only [argE_nil, argE_cons, ↓vmD, vmV, vmStd, Nat.reduceMul, ↓reduceIte, Nat.reduceAdd, Nat.reduceSub, Nat.reduceEqDiff, Nat.reduceLT, Nat.reduceLeDiff, reduceCtorEq, Int.reduceToNat, Int.reduceLT, Int.reduceLE, Int.reduceEq, Int.reduceNeg, Int.reduceBEq, Int.reduceBNe, String.reduceEq, forall_const, ↓vmDA, vmVA, ↓vmQA, vmR, vmRA, ↓vmSA, vmSV, tyS, nuE, SubA.skip, SubA.refl, fr.2, slIndexByte_v, indexByte_v, indexRune_v, containsRune_v, classOf_v, isWordByte_v, letter_v, digit_v, wordAt_v, rword_v, isName_v, risName_v, recId_v, rId13_v, moneyCur_v, rCur01_v, inTotal_v, rwithin1_v, exCard_v, recCheck_v, rrecCheck_v, dNext_v, rNext_v, holder_v, rholder_v, foll_v, rfoll_v, rDec_v, rMove_v]
  obtain ⟨e, l, tot, he, ht, h3, hn, hb⟩ : ∃ (e : Nat) (l : List Rc) (tot : Int), e = 0 ∧ tot = 0 ∧ l = L.drop e ∧ netF L = tot + netF l ∧ (-999999999999 * (e : Int) ≤ tot ∧ tot ≤ 999999999999 * (e : Int)) := ⟨0, L, 0, rfl, rfl, by simp, by simp, by simp⟩
  rw [show (8, some (Value.int .i64 0)) = (8, some (Value.int .i64 (e : Int))) by rw [he]; rfl]
  rw [show (3, some (Value.int .i64 0)) = (3, some (Value.int .i64 tot)) by rw [ht]]
  clear he ht nuE fr
  induction l generalizing e tot with
  | nil =>
    have hle := drop_nil h3
    have hlt : ((e : Int) < (L.length : Int)) = False := by simp; omega
    have hv : netF L = tot := by rw [hn]; simp [netF]
    refine LoopA.intro (by kernel_rfl) ?_
    intro ν fr; have nuE := fr.nu
    simp (maxDischargeDepth := 16) only [argE_nil, argE_cons, ↓vmD, vmV, vmStd, Nat.reduceMul, ↓reduceIte, Nat.reduceAdd, Nat.reduceSub, Nat.reduceEqDiff, Nat.reduceLT, Nat.reduceLeDiff, reduceCtorEq, Int.reduceToNat, Int.reduceLT, Int.reduceLE, Int.reduceEq, Int.reduceNeg, Int.reduceBEq, Int.reduceBNe, String.reduceEq, forall_const, ↓vmDA, vmVA, ↓vmQA, vmR, vmRA, ↓vmSA, vmSV, tyS, nuE, SubA.skip, SubA.refl, fr.2, slIndexByte_v, indexByte_v, indexRune_v, containsRune_v, classOf_v, isWordByte_v, letter_v, digit_v, wordAt_v, rword_v, isName_v, risName_v, recId_v, rId13_v, moneyCur_v, rCur01_v, inTotal_v, rwithin1_v, exCard_v, recCheck_v, rrecCheck_v, dNext_v, rNext_v, holder_v, rholder_v, foll_v, rfoll_v, rDec_v, rMove_v, hlt, hv]
  | cons x l ih =>
    obtain ⟨ha, hl2, h3'⟩ := drop_some h3
    have hlt : ((e : Int) < (L.length : Int)) = True := by simp; omega
    have we : IntKind.i64.wrap ((e : Int) + 1) = ((e + 1 : Nat) : Int) := by rw [w_i64 (by omega) (by omega)]; omega
    obtain ⟨bk, off, cs, ty, fr0, hp0, lb, hcr, hcc⟩ := hL.at ha
    subst hp0
    have k0 : cs[off + e * 12]? = some (.int .i64 x.kd) := hcc 0 _ rfl
    have k7 : cs[off + e * 12 + 7]? = some (.int .i64 x.am) := hcc 7 _ rfl
    have nb := netN_b x
    have wp : 1 ≤ x.am ∧ x.am ≤ 999999999999 → IntKind.i64.wrap (tot + x.am) = tot + x.am := fun h => w_i64 (by omega) (by omega)
    have wn : 1 ≤ x.am ∧ x.am ≤ 999999999999 → IntKind.i64.wrap (tot - x.am) = tot - x.am := fun h => w_i64 (by omega) (by omega)
    refine LoopA.intro (by kernel_rfl) ?_
    intro ν fr; have nuE := fr.nu
    by_cases a1 : x.am < 1
    · have hv : netF L = tot + netF l := by rw [hn]; simp [netF, netN, a1]
      simp (maxDischargeDepth := 16) only [argE_nil, argE_cons, ↓vmD, vmV, vmStd, Nat.reduceMul, ↓reduceIte, Nat.reduceAdd, Nat.reduceSub, Nat.reduceEqDiff, Nat.reduceLT, Nat.reduceLeDiff, reduceCtorEq, Int.reduceToNat, Int.reduceLT, Int.reduceLE, Int.reduceEq, Int.reduceNeg, Int.reduceBEq, Int.reduceBNe, String.reduceEq, forall_const, ↓vmDA, vmVA, ↓vmQA, vmR, vmRA, ↓vmSA, vmSV, tyS, nuE, SubA.skip, SubA.refl, fr.2, slIndexByte_v, indexByte_v, indexRune_v, containsRune_v, classOf_v, isWordByte_v, letter_v, digit_v, wordAt_v, rword_v, isName_v, risName_v, recId_v, rId13_v, moneyCur_v, rCur01_v, inTotal_v, rwithin1_v, exCard_v, recCheck_v, rrecCheck_v, dNext_v, rNext_v, holder_v, rholder_v, foll_v, rfoll_v, rDec_v, rMove_v, hlt, lb, hcr, Rc.agg, k0, k7, a1, we]
      exact LoopA.weak (ih (e + 1) tot h3' hv (by omega)) (by simp only [subE, get_cons, Nat.reduceEqDiff, ↓reduceIte, reduceCtorEq, Nat.reduceAdd, and_self, and_true]) (SubA.skip (fr.2 0) (SubA.refl _))
    by_cases a2 : 999999999999 < x.am
    · have hv : netF L = tot + netF l := by rw [hn]; simp [netF, netN, a2]
      simp (maxDischargeDepth := 16) only [argE_nil, argE_cons, ↓vmD, vmV, vmStd, Nat.reduceMul, ↓reduceIte, Nat.reduceAdd, Nat.reduceSub, Nat.reduceEqDiff, Nat.reduceLT, Nat.reduceLeDiff, reduceCtorEq, Int.reduceToNat, Int.reduceLT, Int.reduceLE, Int.reduceEq, Int.reduceNeg, Int.reduceBEq, Int.reduceBNe, String.reduceEq, forall_const, ↓vmDA, vmVA, ↓vmQA, vmR, vmRA, ↓vmSA, vmSV, tyS, nuE, SubA.skip, SubA.refl, fr.2, slIndexByte_v, indexByte_v, indexRune_v, containsRune_v, classOf_v, isWordByte_v, letter_v, digit_v, wordAt_v, rword_v, isName_v, risName_v, recId_v, rId13_v, moneyCur_v, rCur01_v, inTotal_v, rwithin1_v, exCard_v, recCheck_v, rrecCheck_v, dNext_v, rNext_v, holder_v, rholder_v, foll_v, rfoll_v, rDec_v, rMove_v, hlt, lb, hcr, Rc.agg, k0, k7, a1, a2, we]
      exact LoopA.weak (ih (e + 1) tot h3' hv (by omega)) (by simp only [subE, get_cons, Nat.reduceEqDiff, ↓reduceIte, reduceCtorEq, Nat.reduceAdd, and_self, and_true]) (SubA.skip (fr.2 0) (SubA.refl _))
    have hin : ¬ (x.am < 1 ∨ 999999999999 < x.am) := by omega
    by_cases q3 : x.kd = 3
    · have b3 : (x.kd == 3) = true := by rw [q3]; rfl
      have b4 : (x.kd == 4) = false := by rw [q3]; rfl
      have hv : netF L = tot + x.am + netF l := by rw [hn]; simp only [netF, netN]; rw [if_neg hin, if_pos q3]; omega
      have wp := wp (by omega)
      simp (maxDischargeDepth := 16) only [argE_nil, argE_cons, ↓vmD, vmV, vmStd, Nat.reduceMul, ↓reduceIte, Nat.reduceAdd, Nat.reduceSub, Nat.reduceEqDiff, Nat.reduceLT, Nat.reduceLeDiff, reduceCtorEq, Int.reduceToNat, Int.reduceLT, Int.reduceLE, Int.reduceEq, Int.reduceNeg, Int.reduceBEq, Int.reduceBNe, String.reduceEq, forall_const, ↓vmDA, vmVA, ↓vmQA, vmR, vmRA, ↓vmSA, vmSV, tyS, nuE, SubA.skip, SubA.refl, fr.2, slIndexByte_v, indexByte_v, indexRune_v, containsRune_v, classOf_v, isWordByte_v, letter_v, digit_v, wordAt_v, rword_v, isName_v, risName_v, recId_v, rId13_v, moneyCur_v, rCur01_v, inTotal_v, rwithin1_v, exCard_v, recCheck_v, rrecCheck_v, dNext_v, rNext_v, holder_v, rholder_v, foll_v, rfoll_v, rDec_v, rMove_v, hlt, lb, hcr, Rc.agg, k0, k7, a1, a2, b3, b4, wp, we]
      exact LoopA.weak (ih (e + 1) (tot + x.am) h3' hv (by omega)) (by simp only [subE, get_cons, Nat.reduceEqDiff, ↓reduceIte, reduceCtorEq, Nat.reduceAdd, and_self, and_true]) (SubA.skip (fr.2 0) (SubA.refl _))
    have b3 : (x.kd == 3) = false := by simpa using q3
    by_cases q4 : x.kd = 4
    · have b4 : (x.kd == 4) = true := by rw [q4]; rfl
      have hv : netF L = tot - x.am + netF l := by rw [hn]; simp only [netF, netN]; rw [if_neg hin, if_neg q3, if_pos q4]; omega
      have wn := wn (by omega)
      simp (maxDischargeDepth := 16) only [argE_nil, argE_cons, ↓vmD, vmV, vmStd, Nat.reduceMul, ↓reduceIte, Nat.reduceAdd, Nat.reduceSub, Nat.reduceEqDiff, Nat.reduceLT, Nat.reduceLeDiff, reduceCtorEq, Int.reduceToNat, Int.reduceLT, Int.reduceLE, Int.reduceEq, Int.reduceNeg, Int.reduceBEq, Int.reduceBNe, String.reduceEq, forall_const, ↓vmDA, vmVA, ↓vmQA, vmR, vmRA, ↓vmSA, vmSV, tyS, nuE, SubA.skip, SubA.refl, fr.2, slIndexByte_v, indexByte_v, indexRune_v, containsRune_v, classOf_v, isWordByte_v, letter_v, digit_v, wordAt_v, rword_v, isName_v, risName_v, recId_v, rId13_v, moneyCur_v, rCur01_v, inTotal_v, rwithin1_v, exCard_v, recCheck_v, rrecCheck_v, dNext_v, rNext_v, holder_v, rholder_v, foll_v, rfoll_v, rDec_v, rMove_v, hlt, lb, hcr, Rc.agg, k0, k7, a1, a2, b3, b4, wn, we]
      exact LoopA.weak (ih (e + 1) (tot - x.am) h3' hv (by omega)) (by simp only [subE, get_cons, Nat.reduceEqDiff, ↓reduceIte, reduceCtorEq, Nat.reduceAdd, and_self, and_true]) (SubA.skip (fr.2 0) (SubA.refl _))
    have b4 : (x.kd == 4) = false := by simpa using q4
    have hv : netF L = tot + netF l := by rw [hn]; simp only [netF, netN]; rw [if_neg hin, if_neg q3, if_neg q4]; omega
    simp (maxDischargeDepth := 16) only [argE_nil, argE_cons, ↓vmD, vmV, vmStd, Nat.reduceMul, ↓reduceIte, Nat.reduceAdd, Nat.reduceSub, Nat.reduceEqDiff, Nat.reduceLT, Nat.reduceLeDiff, reduceCtorEq, Int.reduceToNat, Int.reduceLT, Int.reduceLE, Int.reduceEq, Int.reduceNeg, Int.reduceBEq, Int.reduceBNe, String.reduceEq, forall_const, ↓vmDA, vmVA, ↓vmQA, vmR, vmRA, ↓vmSA, vmSV, tyS, nuE, SubA.skip, SubA.refl, fr.2, slIndexByte_v, indexByte_v, indexRune_v, containsRune_v, classOf_v, isWordByte_v, letter_v, digit_v, wordAt_v, rword_v, isName_v, risName_v, recId_v, rId13_v, moneyCur_v, rCur01_v, inTotal_v, rwithin1_v, exCard_v, recCheck_v, rrecCheck_v, dNext_v, rNext_v, holder_v, rholder_v, foll_v, rfoll_v, rDec_v, rMove_v, hlt, lb, hcr, Rc.agg, k0, k7, a1, a2, b3, b4, we]
    exact LoopA.weak (ih (e + 1) tot h3' hv (by omega)) (by simp only [subE, get_cons, Nat.reduceEqDiff, ↓reduceIte, reduceCtorEq, Nat.reduceAdd, and_self, and_true]) (SubA.skip (fr.2 0) (SubA.refl _))
theorem panNet_w (A : AH) (L : List Rc) (p : Option Addr) (cap : Nat) (hL : StR Rc.cells 12 A p L) (hl : L.length ≤ 3000) (B_ : AH) (hB_ : SubA A B_) : valA Tryd.prog 10 #[.slice p L.length cap] B_ = some (.int .i64 (netF L)) := valA_eq (pureA_at (by kernel_rfl) (panNet_h A L p cap hL hl) hB_)
theorem panNet_v (A : AH) (L : List Rc) (p : Option Addr) (cap : Nat) (hL : StR Rc.cells 12 A p L) (hl : L.length ≤ 3000) : valA Tryd.prog 10 #[.slice p L.length cap] A = some (.int .i64 (netF L)) := valA_eq (pureA_at (by kernel_rfl) (panNet_h A L p cap hL hl) (SubA.refl _))
theorem rNet_h (A : AH) (L : List Rc) (p : Option Addr) (cap : Nat) (hL : StR Rc.cells 12 A p L) (hl : L.length ≤ 3000) : CallA Tryd.prog 17 #[.slice p L.length cap] A (fun u_ A_ => u_ = .int .i64 (netF L) ∧ SubA A A_) := by
  refine callA_of_denA ⟨Tryd.prog, 17, Tryd.f17, 43, [0, 2, 3, 4, 5], [], [], _⟩ (args := [_]) Tryd.func17 rfl (by kernel_rfl) Tryd.ntmps17 (by simp) (by kernel_rfl) ?_
  intro ν fr; have nuE := fr.nu
  simp (maxDischargeDepth := 16) only [argE_nil, argE_cons, ↓vmD, vmV, vmStd, Nat.reduceMul, ↓reduceIte, Nat.reduceAdd, Nat.reduceSub, Nat.reduceEqDiff, Nat.reduceLT, Nat.reduceLeDiff, reduceCtorEq, Int.reduceToNat, Int.reduceLT, Int.reduceLE, Int.reduceEq, Int.reduceNeg, Int.reduceBEq, Int.reduceBNe, String.reduceEq, forall_const, ↓vmDA, vmVA, ↓vmQA, vmR, vmRA, ↓vmSA, vmSV, tyS, nuE, SubA.skip, SubA.refl, fr.2, slIndexByte_v, indexByte_v, indexRune_v, containsRune_v, classOf_v, isWordByte_v, letter_v, digit_v, wordAt_v, rword_v, isName_v, risName_v, recId_v, rId13_v, moneyCur_v, rCur01_v, inTotal_v, rwithin1_v, exCard_v, recCheck_v, rrecCheck_v, dNext_v, rNext_v, holder_v, rholder_v, foll_v, rfoll_v, rDec_v, rMove_v]
  obtain ⟨e, l, tot, he, ht, h3, hn, hb⟩ : ∃ (e : Nat) (l : List Rc) (tot : Int), e = 0 ∧ tot = 0 ∧ l = L.drop e ∧ netF L = tot + netF l ∧ (-999999999999 * (e : Int) ≤ tot ∧ tot ≤ 999999999999 * (e : Int)) := ⟨0, L, 0, rfl, rfl, by simp, by simp, by simp⟩
  rw [show (4, some (Value.int .i64 0)) = (4, some (Value.int .i64 (e : Int))) by rw [he]; rfl]
  rw [show (3, some (Value.int .i64 0)) = (3, some (Value.int .i64 tot)) by rw [ht]]
  clear he ht nuE fr
  induction l generalizing e tot with
  | nil =>
    have hle := drop_nil h3
    have hlt : ((e : Int) < (L.length : Int)) = False := by simp; omega
    have hv : netF L = tot := by rw [hn]; simp [netF]
    refine LoopA.intro (by kernel_rfl) ?_
    intro ν fr; have nuE := fr.nu
    simp (maxDischargeDepth := 16) only [argE_nil, argE_cons, ↓vmD, vmV, vmStd, Nat.reduceMul, ↓reduceIte, Nat.reduceAdd, Nat.reduceSub, Nat.reduceEqDiff, Nat.reduceLT, Nat.reduceLeDiff, reduceCtorEq, Int.reduceToNat, Int.reduceLT, Int.reduceLE, Int.reduceEq, Int.reduceNeg, Int.reduceBEq, Int.reduceBNe, String.reduceEq, forall_const, ↓vmDA, vmVA, ↓vmQA, vmR, vmRA, ↓vmSA, vmSV, tyS, nuE, SubA.skip, SubA.refl, fr.2, slIndexByte_v, indexByte_v, indexRune_v, containsRune_v, classOf_v, isWordByte_v, letter_v, digit_v, wordAt_v, rword_v, isName_v, risName_v, recId_v, rId13_v, moneyCur_v, rCur01_v, inTotal_v, rwithin1_v, exCard_v, recCheck_v, rrecCheck_v, dNext_v, rNext_v, holder_v, rholder_v, foll_v, rfoll_v, rDec_v, rMove_v, hlt, hv]
  | cons x l ih =>
    obtain ⟨ha, hl2, h3'⟩ := drop_some h3
    have hlt : ((e : Int) < (L.length : Int)) = True := by simp; omega
    have we : IntKind.i64.wrap ((e : Int) + 1) = ((e + 1 : Nat) : Int) := by rw [w_i64 (by omega) (by omega)]; omega
    obtain ⟨bk, off, cs, ty, fr0, hp0, lb, hcr, hcc⟩ := hL.at ha
    subst hp0
    have k0 : cs[off + e * 12]? = some (.int .i64 x.kd) := hcc 0 _ rfl
    have k7 : cs[off + e * 12 + 7]? = some (.int .i64 x.am) := hcc 7 _ rfl
    have nb := netN_b x
    have wp : 1 ≤ x.am ∧ x.am ≤ 999999999999 → IntKind.i64.wrap (tot + x.am) = tot + x.am := fun h => w_i64 (by omega) (by omega)
    have wn : 1 ≤ x.am ∧ x.am ≤ 999999999999 → IntKind.i64.wrap (tot - x.am) = tot - x.am := fun h => w_i64 (by omega) (by omega)
    refine LoopA.intro (by kernel_rfl) ?_
    intro ν fr; have nuE := fr.nu
    by_cases a1 : x.am < 1
    · have hv : netF L = tot + netF l := by rw [hn]; simp [netF, netN, a1]
      simp (maxDischargeDepth := 16) only [argE_nil, argE_cons, ↓vmD, vmV, vmStd, Nat.reduceMul, ↓reduceIte, Nat.reduceAdd, Nat.reduceSub, Nat.reduceEqDiff, Nat.reduceLT, Nat.reduceLeDiff, reduceCtorEq, Int.reduceToNat, Int.reduceLT, Int.reduceLE, Int.reduceEq, Int.reduceNeg, Int.reduceBEq, Int.reduceBNe, String.reduceEq, forall_const, ↓vmDA, vmVA, ↓vmQA, vmR, vmRA, ↓vmSA, vmSV, tyS, nuE, SubA.skip, SubA.refl, fr.2, slIndexByte_v, indexByte_v, indexRune_v, containsRune_v, classOf_v, isWordByte_v, letter_v, digit_v, wordAt_v, rword_v, isName_v, risName_v, recId_v, rId13_v, moneyCur_v, rCur01_v, inTotal_v, rwithin1_v, exCard_v, recCheck_v, rrecCheck_v, dNext_v, rNext_v, holder_v, rholder_v, foll_v, rfoll_v, rDec_v, rMove_v, hlt, lb, hcr, Rc.agg, k0, k7, a1, we]
      exact LoopA.weak (ih (e + 1) tot h3' hv (by omega)) (by simp only [subE, get_cons, Nat.reduceEqDiff, ↓reduceIte, reduceCtorEq, Nat.reduceAdd, and_self, and_true]) (SubA.refl _)
    by_cases a2 : 999999999999 < x.am
    · have hv : netF L = tot + netF l := by rw [hn]; simp [netF, netN, a2]
      simp (maxDischargeDepth := 16) only [argE_nil, argE_cons, ↓vmD, vmV, vmStd, Nat.reduceMul, ↓reduceIte, Nat.reduceAdd, Nat.reduceSub, Nat.reduceEqDiff, Nat.reduceLT, Nat.reduceLeDiff, reduceCtorEq, Int.reduceToNat, Int.reduceLT, Int.reduceLE, Int.reduceEq, Int.reduceNeg, Int.reduceBEq, Int.reduceBNe, String.reduceEq, forall_const, ↓vmDA, vmVA, ↓vmQA, vmR, vmRA, ↓vmSA, vmSV, tyS, nuE, SubA.skip, SubA.refl, fr.2, slIndexByte_v, indexByte_v, indexRune_v, containsRune_v, classOf_v, isWordByte_v, letter_v, digit_v, wordAt_v, rword_v, isName_v, risName_v, recId_v, rId13_v, moneyCur_v, rCur01_v, inTotal_v, rwithin1_v, exCard_v, recCheck_v, rrecCheck_v, dNext_v, rNext_v, holder_v, rholder_v, foll_v, rfoll_v, rDec_v, rMove_v, hlt, lb, hcr, Rc.agg, k0, k7, a1, a2, we]
      exact LoopA.weak (ih (e + 1) tot h3' hv (by omega)) (by simp only [subE, get_cons, Nat.reduceEqDiff, ↓reduceIte, reduceCtorEq, Nat.reduceAdd, and_self, and_true]) (SubA.refl _)
    have hin : ¬ (x.am < 1 ∨ 999999999999 < x.am) := by omega
    by_cases q3 : x.kd = 3
    · have b3 : (x.kd == 3) = true := by rw [q3]; rfl
      have b4 : (x.kd == 4) = false := by rw [q3]; rfl
      have hv : netF L = tot + x.am + netF l := by rw [hn]; simp only [netF, netN]; rw [if_neg hin, if_pos q3]; omega
      have wp := wp (by omega)
      simp (maxDischargeDepth := 16) only [argE_nil, argE_cons, ↓vmD, vmV, vmStd, Nat.reduceMul, ↓reduceIte, Nat.reduceAdd, Nat.reduceSub, Nat.reduceEqDiff, Nat.reduceLT, Nat.reduceLeDiff, reduceCtorEq, Int.reduceToNat, Int.reduceLT, Int.reduceLE, Int.reduceEq, Int.reduceNeg, Int.reduceBEq, Int.reduceBNe, String.reduceEq, forall_const, ↓vmDA, vmVA, ↓vmQA, vmR, vmRA, ↓vmSA, vmSV, tyS, nuE, SubA.skip, SubA.refl, fr.2, slIndexByte_v, indexByte_v, indexRune_v, containsRune_v, classOf_v, isWordByte_v, letter_v, digit_v, wordAt_v, rword_v, isName_v, risName_v, recId_v, rId13_v, moneyCur_v, rCur01_v, inTotal_v, rwithin1_v, exCard_v, recCheck_v, rrecCheck_v, dNext_v, rNext_v, holder_v, rholder_v, foll_v, rfoll_v, rDec_v, rMove_v, hlt, lb, hcr, Rc.agg, k0, k7, a1, a2, b3, b4, wp, we]
      exact LoopA.weak (ih (e + 1) (tot + x.am) h3' hv (by omega)) (by simp only [subE, get_cons, Nat.reduceEqDiff, ↓reduceIte, reduceCtorEq, Nat.reduceAdd, and_self, and_true]) (SubA.refl _)
    have b3 : (x.kd == 3) = false := by simpa using q3
    by_cases q4 : x.kd = 4
    · have b4 : (x.kd == 4) = true := by rw [q4]; rfl
      have hv : netF L = tot - x.am + netF l := by rw [hn]; simp only [netF, netN]; rw [if_neg hin, if_neg q3, if_pos q4]; omega
      have wn := wn (by omega)
      simp (maxDischargeDepth := 16) only [argE_nil, argE_cons, ↓vmD, vmV, vmStd, Nat.reduceMul, ↓reduceIte, Nat.reduceAdd, Nat.reduceSub, Nat.reduceEqDiff, Nat.reduceLT, Nat.reduceLeDiff, reduceCtorEq, Int.reduceToNat, Int.reduceLT, Int.reduceLE, Int.reduceEq, Int.reduceNeg, Int.reduceBEq, Int.reduceBNe, String.reduceEq, forall_const, ↓vmDA, vmVA, ↓vmQA, vmR, vmRA, ↓vmSA, vmSV, tyS, nuE, SubA.skip, SubA.refl, fr.2, slIndexByte_v, indexByte_v, indexRune_v, containsRune_v, classOf_v, isWordByte_v, letter_v, digit_v, wordAt_v, rword_v, isName_v, risName_v, recId_v, rId13_v, moneyCur_v, rCur01_v, inTotal_v, rwithin1_v, exCard_v, recCheck_v, rrecCheck_v, dNext_v, rNext_v, holder_v, rholder_v, foll_v, rfoll_v, rDec_v, rMove_v, hlt, lb, hcr, Rc.agg, k0, k7, a1, a2, b3, b4, wn, we]
      exact LoopA.weak (ih (e + 1) (tot - x.am) h3' hv (by omega)) (by simp only [subE, get_cons, Nat.reduceEqDiff, ↓reduceIte, reduceCtorEq, Nat.reduceAdd, and_self, and_true]) (SubA.refl _)
    have b4 : (x.kd == 4) = false := by simpa using q4
    have hv : netF L = tot + netF l := by rw [hn]; simp only [netF, netN]; rw [if_neg hin, if_neg q3, if_neg q4]; omega
    simp (maxDischargeDepth := 16) only [argE_nil, argE_cons, ↓vmD, vmV, vmStd, Nat.reduceMul, ↓reduceIte, Nat.reduceAdd, Nat.reduceSub, Nat.reduceEqDiff, Nat.reduceLT, Nat.reduceLeDiff, reduceCtorEq, Int.reduceToNat, Int.reduceLT, Int.reduceLE, Int.reduceEq, Int.reduceNeg, Int.reduceBEq, Int.reduceBNe, String.reduceEq, forall_const, ↓vmDA, vmVA, ↓vmQA, vmR, vmRA, ↓vmSA, vmSV, tyS, nuE, SubA.skip, SubA.refl, fr.2, slIndexByte_v, indexByte_v, indexRune_v, containsRune_v, classOf_v, isWordByte_v, letter_v, digit_v, wordAt_v, rword_v, isName_v, risName_v, recId_v, rId13_v, moneyCur_v, rCur01_v, inTotal_v, rwithin1_v, exCard_v, recCheck_v, rrecCheck_v, dNext_v, rNext_v, holder_v, rholder_v, foll_v, rfoll_v, rDec_v, rMove_v, hlt, lb, hcr, Rc.agg, k0, k7, a1, a2, b3, b4, we]
    exact LoopA.weak (ih (e + 1) tot h3' hv (by omega)) (by simp only [subE, get_cons, Nat.reduceEqDiff, ↓reduceIte, reduceCtorEq, Nat.reduceAdd, and_self, and_true]) (SubA.refl _)
theorem rNet_w (A : AH) (L : List Rc) (p : Option Addr) (cap : Nat) (hL : StR Rc.cells 12 A p L) (hl : L.length ≤ 3000) (B_ : AH) (hB_ : SubA A B_) : valA Tryd.prog 17 #[.slice p L.length cap] B_ = some (.int .i64 (netF L)) := valA_eq (pureA_at (by kernel_rfl) (rNet_h A L p cap hL hl) hB_)
theorem rNet_v (A : AH) (L : List Rc) (p : Option Addr) (cap : Nat) (hL : StR Rc.cells 12 A p L) (hl : L.length ≤ 3000) : valA Tryd.prog 17 #[.slice p L.length cap] A = some (.int .i64 (netF L)) := valA_eq (pureA_at (by kernel_rfl) (rNet_h A L p cap hL hl) (SubA.refl _))
end Go.Proofs.YtejcnpllodgmlaaDoor
