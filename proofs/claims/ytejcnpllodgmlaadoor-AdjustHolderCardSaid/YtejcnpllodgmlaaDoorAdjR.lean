/-
Adjustments: the reference's walk of a movement.
Conditions: none.
-/
import Derived.Test.YtejcnpllodgmlaaDoorAdjX
namespace Go.Proofs.YtejcnpllodgmlaaDoor
open Go.Vm
set_option linter.unusedSimpArgs false
set_option linter.unusedVariables false
set_option maxHeartbeats 4000000
set_option maxRecDepth 20000
theorem rMove_h (c : Cs) (r : Rc) (s t d n : Int) (hc : SzC c) (hr : SzR r) : CallA Tryd.prog 13 #[.agg #[.string c.id, .string c.rc, .string c.rs, .string c.is, .string c.aq, .int .i64 c.am, .string c.cu, .int .i64 c.st, .int .i64 c.op, .int .i64 c.du], .agg #[.int .i64 r.kd, .string r.id, .string r.au, .string r.aq, .string r.is, .string r.me, .string r.ca, .int .i64 r.am, .string r.cu, .int .i64 r.da, .int .i64 r.ct, .bool r.fi], .int .i64 s, .int .i64 t, .int .i64 d, .int .i64 n] [] (fun u_ _ => u_ = movV c r s t d n) := by
  refine callA_of_denA ⟨Tryd.prog, 13, Tryd.f13, 132, [0, 1, 2, 3, 4, 5, 6, 7, 12, 13, 14, 15, 16, 17, 18], [], [(19, .p [(0, 0), (1, 0), (2, 0), (3, 0), (4, 0), (5, 0), (6, 0), (7, 0), (8, 0), (9, 0), (10, 0), (11, 0), (12, 0), (13, 0), (14, 0), (15, 0), (16, 0), (17, 0), (18, 0), (19, 0), (20, 1), (21, 2)])], _⟩ (args := [_, _, _, _, _, _]) Tryd.func13 rfl (by kernel_rfl) Tryd.ntmps13 (by simp) (by kernel_rfl) ?_
  intro ν fr; have nuE := fr.nu
  obtain ⟨z1, z2, z3, z4, z5, z6, z7⟩ := hr
  obtain ⟨y1, y2⟩ := hc
  by_cases h1 : s < 0
  · have hv := movV_err (c := c) (r := r) (s := s) (t := t) (d := d) (n := n) (k := 4) (by unfold movE; rw [if_pos (by omega)]) (by decide)
    simp (maxDischargeDepth := 16) only [argE_nil, argE_cons, ↓vmD, vmV, vmStd, Nat.reduceMul, ↓reduceIte, Nat.reduceAdd, Nat.reduceSub, Nat.reduceEqDiff, Nat.reduceLT, Nat.reduceLeDiff, reduceCtorEq, Int.reduceToNat, Int.reduceLT, Int.reduceLE, Int.reduceEq, Int.reduceNeg, Int.reduceBEq, Int.reduceBNe, String.reduceEq, forall_const, ↓vmDA, vmVA, ↓vmQA, vmR, vmRA, ↓vmSA, vmSV, tyS, nuE, slIndexByte_v, indexByte_v, indexRune_v, containsRune_v, classOf_v, isWordByte_v, letter_v, digit_v, wordAt_v, rword_v, isName_v, risName_v, recId_v, rId13_v, moneyCur_v, rCur01_v, inTotal_v, rwithin1_v, exCard_v, recCheck_v, rrecCheck_v, dNext_v, rNext_v, holder_v, rholder_v, foll_v, rfoll_v, rDec_v, h1, hv]
  by_cases h2 : 6 < s
  · have hv := movV_err (c := c) (r := r) (s := s) (t := t) (d := d) (n := n) (k := 4) (by unfold movE; rw [if_pos (by omega)]) (by decide)
    simp (maxDischargeDepth := 16) only [argE_nil, argE_cons, ↓vmD, vmV, vmStd, Nat.reduceMul, ↓reduceIte, Nat.reduceAdd, Nat.reduceSub, Nat.reduceEqDiff, Nat.reduceLT, Nat.reduceLeDiff, reduceCtorEq, Int.reduceToNat, Int.reduceLT, Int.reduceLE, Int.reduceEq, Int.reduceNeg, Int.reduceBEq, Int.reduceBNe, String.reduceEq, forall_const, ↓vmDA, vmVA, ↓vmQA, vmR, vmRA, ↓vmSA, vmSV, tyS, nuE, slIndexByte_v, indexByte_v, indexRune_v, containsRune_v, classOf_v, isWordByte_v, letter_v, digit_v, wordAt_v, rword_v, isName_v, risName_v, recId_v, rId13_v, moneyCur_v, rCur01_v, inTotal_v, rwithin1_v, exCard_v, recCheck_v, rrecCheck_v, dNext_v, rNext_v, holder_v, rholder_v, foll_v, rfoll_v, rDec_v, h1, h2, hv]
  by_cases h3 : t < 1
  · have hv := movV_err (c := c) (r := r) (s := s) (t := t) (d := d) (n := n) (k := 4) (by unfold movE; rw [if_pos (by omega)]) (by decide)
    simp (maxDischargeDepth := 16) only [argE_nil, argE_cons, ↓vmD, vmV, vmStd, Nat.reduceMul, ↓reduceIte, Nat.reduceAdd, Nat.reduceSub, Nat.reduceEqDiff, Nat.reduceLT, Nat.reduceLeDiff, reduceCtorEq, Int.reduceToNat, Int.reduceLT, Int.reduceLE, Int.reduceEq, Int.reduceNeg, Int.reduceBEq, Int.reduceBNe, String.reduceEq, forall_const, ↓vmDA, vmVA, ↓vmQA, vmR, vmRA, ↓vmSA, vmSV, tyS, nuE, slIndexByte_v, indexByte_v, indexRune_v, containsRune_v, classOf_v, isWordByte_v, letter_v, digit_v, wordAt_v, rword_v, isName_v, risName_v, recId_v, rId13_v, moneyCur_v, rCur01_v, inTotal_v, rwithin1_v, exCard_v, recCheck_v, rrecCheck_v, dNext_v, rNext_v, holder_v, rholder_v, foll_v, rfoll_v, rDec_v, h1, h2, h3, hv]
  by_cases h4 : 6 < t
  · have hv := movV_err (c := c) (r := r) (s := s) (t := t) (d := d) (n := n) (k := 4) (by unfold movE; rw [if_pos (by omega)]) (by decide)
    simp (maxDischargeDepth := 16) only [argE_nil, argE_cons, ↓vmD, vmV, vmStd, Nat.reduceMul, ↓reduceIte, Nat.reduceAdd, Nat.reduceSub, Nat.reduceEqDiff, Nat.reduceLT, Nat.reduceLeDiff, reduceCtorEq, Int.reduceToNat, Int.reduceLT, Int.reduceLE, Int.reduceEq, Int.reduceNeg, Int.reduceBEq, Int.reduceBNe, String.reduceEq, forall_const, ↓vmDA, vmVA, ↓vmQA, vmR, vmRA, ↓vmSA, vmSV, tyS, nuE, slIndexByte_v, indexByte_v, indexRune_v, containsRune_v, classOf_v, isWordByte_v, letter_v, digit_v, wordAt_v, rword_v, isName_v, risName_v, recId_v, rId13_v, moneyCur_v, rCur01_v, inTotal_v, rwithin1_v, exCard_v, recCheck_v, rrecCheck_v, dNext_v, rNext_v, holder_v, rholder_v, foll_v, rfoll_v, rDec_v, h1, h2, h3, h4, hv]
  have c1 : ¬ (s < 0 ∨ 6 < s ∨ t < 1 ∨ 6 < t) := by omega
  cases hf : follF s t with
  | false =>
    have hv := movV_err (c := c) (r := r) (s := s) (t := t) (d := d) (n := n) (k := 8) (by unfold movE; rw [if_neg c1, if_pos hf]) (by decide)
    simp (maxDischargeDepth := 16) only [argE_nil, argE_cons, ↓vmD, vmV, vmStd, Nat.reduceMul, ↓reduceIte, Nat.reduceAdd, Nat.reduceSub, Nat.reduceEqDiff, Nat.reduceLT, Nat.reduceLeDiff, reduceCtorEq, Int.reduceToNat, Int.reduceLT, Int.reduceLE, Int.reduceEq, Int.reduceNeg, Int.reduceBEq, Int.reduceBNe, String.reduceEq, forall_const, ↓vmDA, vmVA, ↓vmQA, vmR, vmRA, ↓vmSA, vmSV, tyS, nuE, slIndexByte_v, indexByte_v, indexRune_v, containsRune_v, classOf_v, isWordByte_v, letter_v, digit_v, wordAt_v, rword_v, isName_v, risName_v, recId_v, rId13_v, moneyCur_v, rCur01_v, inTotal_v, rwithin1_v, exCard_v, recCheck_v, rrecCheck_v, dNext_v, rNext_v, holder_v, rholder_v, foll_v, rfoll_v, rDec_v, h1, h2, h3, h4, hf, hv]
  | true =>
  have c2 : ¬ follF s t = false := by rw [hf]; simp
  have rcd := fun A => rrecCheck_v r.kd r.id r.au r.aq r.is r.me r.ca r.am r.cu r.da r.ct r.fi (by omega) (by omega) (by omega) (by omega) (by omega) (by omega) (by omega) A
  rw [show chkRG r.kd r.id r.au r.aq r.is r.me r.ca r.am r.cu r.da r.ct = rcE r from rfl] at rcd
  by_cases h5 : rcE r = 0
  rotate_left
  · have hv := movV_err (c := c) (r := r) (s := s) (t := t) (d := d) (n := n) (k := rcE r) (by unfold movE; rw [if_neg c1, if_neg c2, if_pos h5]) h5
    have q : (rcE r != 0) = true := by simpa using h5
    simp (maxDischargeDepth := 16) only [argE_nil, argE_cons, ↓vmD, vmV, vmStd, Nat.reduceMul, ↓reduceIte, Nat.reduceAdd, Nat.reduceSub, Nat.reduceEqDiff, Nat.reduceLT, Nat.reduceLeDiff, reduceCtorEq, Int.reduceToNat, Int.reduceLT, Int.reduceLE, Int.reduceEq, Int.reduceNeg, Int.reduceBEq, Int.reduceBNe, String.reduceEq, forall_const, ↓vmDA, vmVA, ↓vmQA, vmR, vmRA, ↓vmSA, vmSV, tyS, nuE, slIndexByte_v, indexByte_v, indexRune_v, containsRune_v, classOf_v, isWordByte_v, letter_v, digit_v, wordAt_v, rword_v, isName_v, risName_v, recId_v, rId13_v, moneyCur_v, rCur01_v, inTotal_v, rwithin1_v, exCard_v, recCheck_v, rrecCheck_v, dNext_v, rNext_v, holder_v, rholder_v, foll_v, rfoll_v, rDec_v, h1, h2, h3, h4, hf, rcd, q, hv]
  have c3 : ¬ rcE r ≠ 0 := by simpa using h5
  have q5 : (rcE r != 0) = false := by simpa using h5
  by_cases h6 : r.kd = 1
  rotate_left
  · have hv := movV_err (c := c) (r := r) (s := s) (t := t) (d := d) (n := n) (k := 4) (by unfold movE; rw [if_neg c1, if_neg c2, if_neg c3, if_pos h6]) (by decide)
    have q : (r.kd != 1) = true := by simpa using h6
    simp (maxDischargeDepth := 16) only [argE_nil, argE_cons, ↓vmD, vmV, vmStd, Nat.reduceMul, ↓reduceIte, Nat.reduceAdd, Nat.reduceSub, Nat.reduceEqDiff, Nat.reduceLT, Nat.reduceLeDiff, reduceCtorEq, Int.reduceToNat, Int.reduceLT, Int.reduceLE, Int.reduceEq, Int.reduceNeg, Int.reduceBEq, Int.reduceBNe, String.reduceEq, forall_const, ↓vmDA, vmVA, ↓vmQA, vmR, vmRA, ↓vmSA, vmSV, tyS, nuE, slIndexByte_v, indexByte_v, indexRune_v, containsRune_v, classOf_v, isWordByte_v, letter_v, digit_v, wordAt_v, rword_v, isName_v, risName_v, recId_v, rId13_v, moneyCur_v, rCur01_v, inTotal_v, rwithin1_v, exCard_v, recCheck_v, rrecCheck_v, dNext_v, rNext_v, holder_v, rholder_v, foll_v, rfoll_v, rDec_v, h1, h2, h3, h4, hf, rcd, q5, q, hv]
  have c4 : ¬ r.kd ≠ 1 := by simpa using h6
  have q6 : (r.kd != 1) = false := by simpa using h6
  by_cases h7 : c.rc = r.id
  rotate_left
  · have hv := movV_err (c := c) (r := r) (s := s) (t := t) (d := d) (n := n) (k := 6) (by unfold movE; rw [if_neg c1, if_neg c2, if_neg c3, if_neg c4, if_pos h7]) (by decide)
    have q : (c.rc.toList == r.id.toList) = false := ba_beq_ne h7
    simp (maxDischargeDepth := 16) only [argE_nil, argE_cons, ↓vmD, vmV, vmStd, Nat.reduceMul, ↓reduceIte, Nat.reduceAdd, Nat.reduceSub, Nat.reduceEqDiff, Nat.reduceLT, Nat.reduceLeDiff, reduceCtorEq, Int.reduceToNat, Int.reduceLT, Int.reduceLE, Int.reduceEq, Int.reduceNeg, Int.reduceBEq, Int.reduceBNe, String.reduceEq, forall_const, ↓vmDA, vmVA, ↓vmQA, vmR, vmRA, ↓vmSA, vmSV, tyS, nuE, slIndexByte_v, indexByte_v, indexRune_v, containsRune_v, classOf_v, isWordByte_v, letter_v, digit_v, wordAt_v, rword_v, isName_v, risName_v, recId_v, rId13_v, moneyCur_v, rCur01_v, inTotal_v, rwithin1_v, exCard_v, recCheck_v, rrecCheck_v, dNext_v, rNext_v, holder_v, rholder_v, foll_v, rfoll_v, rDec_v, h1, h2, h3, h4, hf, rcd, q5, q6, q, hv]
  have c5 : ¬ c.rc ≠ r.id := by simpa using h7
  have q7 : (c.rc.toList == r.id.toList) = true := by rw [h7]; exact BEq.rfl
  by_cases h8 : c.cu = r.cu
  rotate_left
  · have hv := movV_err (c := c) (r := r) (s := s) (t := t) (d := d) (n := n) (k := 11) (by unfold movE; rw [if_neg c1, if_neg c2, if_neg c3, if_neg c4, if_neg c5, if_pos h8]) (by decide)
    have q : (c.cu.toList == r.cu.toList) = false := ba_beq_ne h8
    simp (maxDischargeDepth := 16) only [argE_nil, argE_cons, ↓vmD, vmV, vmStd, Nat.reduceMul, ↓reduceIte, Nat.reduceAdd, Nat.reduceSub, Nat.reduceEqDiff, Nat.reduceLT, Nat.reduceLeDiff, reduceCtorEq, Int.reduceToNat, Int.reduceLT, Int.reduceLE, Int.reduceEq, Int.reduceNeg, Int.reduceBEq, Int.reduceBNe, String.reduceEq, forall_const, ↓vmDA, vmVA, ↓vmQA, vmR, vmRA, ↓vmSA, vmSV, tyS, nuE, slIndexByte_v, indexByte_v, indexRune_v, containsRune_v, classOf_v, isWordByte_v, letter_v, digit_v, wordAt_v, rword_v, isName_v, risName_v, recId_v, rId13_v, moneyCur_v, rCur01_v, inTotal_v, rwithin1_v, exCard_v, recCheck_v, rrecCheck_v, dNext_v, rNext_v, holder_v, rholder_v, foll_v, rfoll_v, rDec_v, h1, h2, h3, h4, hf, rcd, q5, q6, q7, q, hv]
  have c6 : ¬ c.cu ≠ r.cu := by simpa using h8
  have q8 : (c.cu.toList == r.cu.toList) = true := by rw [h8]; exact BEq.rfl
  by_cases h9 : c.am < 1
  · have hv := movV_err (c := c) (r := r) (s := s) (t := t) (d := d) (n := n) (k := 4) (by unfold movE; rw [if_neg c1, if_neg c2, if_neg c3, if_neg c4, if_neg c5, if_neg c6, if_pos (by omega)]) (by decide)
    simp (maxDischargeDepth := 16) only [argE_nil, argE_cons, ↓vmD, vmV, vmStd, Nat.reduceMul, ↓reduceIte, Nat.reduceAdd, Nat.reduceSub, Nat.reduceEqDiff, Nat.reduceLT, Nat.reduceLeDiff, reduceCtorEq, Int.reduceToNat, Int.reduceLT, Int.reduceLE, Int.reduceEq, Int.reduceNeg, Int.reduceBEq, Int.reduceBNe, String.reduceEq, forall_const, ↓vmDA, vmVA, ↓vmQA, vmR, vmRA, ↓vmSA, vmSV, tyS, nuE, slIndexByte_v, indexByte_v, indexRune_v, containsRune_v, classOf_v, isWordByte_v, letter_v, digit_v, wordAt_v, rword_v, isName_v, risName_v, recId_v, rId13_v, moneyCur_v, rCur01_v, inTotal_v, rwithin1_v, exCard_v, recCheck_v, rrecCheck_v, dNext_v, rNext_v, holder_v, rholder_v, foll_v, rfoll_v, rDec_v, h1, h2, h3, h4, hf, rcd, q5, q6, q7, q8, h9, hv]
  by_cases h10 : r.am < c.am
  · have hv := movV_err (c := c) (r := r) (s := s) (t := t) (d := d) (n := n) (k := 4) (by unfold movE; rw [if_neg c1, if_neg c2, if_neg c3, if_neg c4, if_neg c5, if_neg c6, if_pos (by omega)]) (by decide)
    simp (maxDischargeDepth := 16) only [argE_nil, argE_cons, ↓vmD, vmV, vmStd, Nat.reduceMul, ↓reduceIte, Nat.reduceAdd, Nat.reduceSub, Nat.reduceEqDiff, Nat.reduceLT, Nat.reduceLeDiff, reduceCtorEq, Int.reduceToNat, Int.reduceLT, Int.reduceLE, Int.reduceEq, Int.reduceNeg, Int.reduceBEq, Int.reduceBNe, String.reduceEq, forall_const, ↓vmDA, vmVA, ↓vmQA, vmR, vmRA, ↓vmSA, vmSV, tyS, nuE, slIndexByte_v, indexByte_v, indexRune_v, containsRune_v, classOf_v, isWordByte_v, letter_v, digit_v, wordAt_v, rword_v, isName_v, risName_v, recId_v, rId13_v, moneyCur_v, rCur01_v, inTotal_v, rwithin1_v, exCard_v, recCheck_v, rrecCheck_v, dNext_v, rNext_v, holder_v, rholder_v, foll_v, rfoll_v, rDec_v, h1, h2, h3, h4, hf, rcd, q5, q6, q7, q8, h9, h10, hv]
  by_cases h11 : n < 1
  · have hv := movV_err (c := c) (r := r) (s := s) (t := t) (d := d) (n := n) (k := 4) (by unfold movE; rw [if_neg c1, if_neg c2, if_neg c3, if_neg c4, if_neg c5, if_neg c6, if_pos (by omega)]) (by decide)
    simp (maxDischargeDepth := 16) only [argE_nil, argE_cons, ↓vmD, vmV, vmStd, Nat.reduceMul, ↓reduceIte, Nat.reduceAdd, Nat.reduceSub, Nat.reduceEqDiff, Nat.reduceLT, Nat.reduceLeDiff, reduceCtorEq, Int.reduceToNat, Int.reduceLT, Int.reduceLE, Int.reduceEq, Int.reduceNeg, Int.reduceBEq, Int.reduceBNe, String.reduceEq, forall_const, ↓vmDA, vmVA, ↓vmQA, vmR, vmRA, ↓vmSA, vmSV, tyS, nuE, slIndexByte_v, indexByte_v, indexRune_v, containsRune_v, classOf_v, isWordByte_v, letter_v, digit_v, wordAt_v, rword_v, isName_v, risName_v, recId_v, rId13_v, moneyCur_v, rCur01_v, inTotal_v, rwithin1_v, exCard_v, recCheck_v, rrecCheck_v, dNext_v, rNext_v, holder_v, rholder_v, foll_v, rfoll_v, rDec_v, h1, h2, h3, h4, hf, rcd, q5, q6, q7, q8, h9, h10, h11, hv]
  by_cases h12 : 99 < n
  · have hv := movV_err (c := c) (r := r) (s := s) (t := t) (d := d) (n := n) (k := 4) (by unfold movE; rw [if_neg c1, if_neg c2, if_neg c3, if_neg c4, if_neg c5, if_neg c6, if_pos (by omega)]) (by decide)
    simp (maxDischargeDepth := 16) only [argE_nil, argE_cons, ↓vmD, vmV, vmStd, Nat.reduceMul, ↓reduceIte, Nat.reduceAdd, Nat.reduceSub, Nat.reduceEqDiff, Nat.reduceLT, Nat.reduceLeDiff, reduceCtorEq, Int.reduceToNat, Int.reduceLT, Int.reduceLE, Int.reduceEq, Int.reduceNeg, Int.reduceBEq, Int.reduceBNe, String.reduceEq, forall_const, ↓vmDA, vmVA, ↓vmQA, vmR, vmRA, ↓vmSA, vmSV, tyS, nuE, slIndexByte_v, indexByte_v, indexRune_v, containsRune_v, classOf_v, isWordByte_v, letter_v, digit_v, wordAt_v, rword_v, isName_v, risName_v, recId_v, rId13_v, moneyCur_v, rCur01_v, inTotal_v, rwithin1_v, exCard_v, recCheck_v, rrecCheck_v, dNext_v, rNext_v, holder_v, rholder_v, foll_v, rfoll_v, rDec_v, h1, h2, h3, h4, hf, rcd, q5, q6, q7, q8, h9, h10, h11, h12, hv]
  have c7 : ¬ (c.am < 1 ∨ r.am < c.am ∨ n < 1 ∨ 99 < n) := by omega
  by_cases h13 : d < r.da
  · have hv := movV_err (c := c) (r := r) (s := s) (t := t) (d := d) (n := n) (k := 14) (by unfold movE; rw [if_neg c1, if_neg c2, if_neg c3, if_neg c4, if_neg c5, if_neg c6, if_neg c7, if_pos (by omega)]) (by decide)
    simp (maxDischargeDepth := 16) only [argE_nil, argE_cons, ↓vmD, vmV, vmStd, Nat.reduceMul, ↓reduceIte, Nat.reduceAdd, Nat.reduceSub, Nat.reduceEqDiff, Nat.reduceLT, Nat.reduceLeDiff, reduceCtorEq, Int.reduceToNat, Int.reduceLT, Int.reduceLE, Int.reduceEq, Int.reduceNeg, Int.reduceBEq, Int.reduceBNe, String.reduceEq, forall_const, ↓vmDA, vmVA, ↓vmQA, vmR, vmRA, ↓vmSA, vmSV, tyS, nuE, slIndexByte_v, indexByte_v, indexRune_v, containsRune_v, classOf_v, isWordByte_v, letter_v, digit_v, wordAt_v, rword_v, isName_v, risName_v, recId_v, rId13_v, moneyCur_v, rCur01_v, inTotal_v, rwithin1_v, exCard_v, recCheck_v, rrecCheck_v, dNext_v, rNext_v, holder_v, rholder_v, foll_v, rfoll_v, rDec_v, h1, h2, h3, h4, hf, rcd, q5, q6, q7, q8, h9, h10, h11, h12, h13, hv]
  by_cases h14 : 99999 < d
  · have hv := movV_err (c := c) (r := r) (s := s) (t := t) (d := d) (n := n) (k := 14) (by unfold movE; rw [if_neg c1, if_neg c2, if_neg c3, if_neg c4, if_neg c5, if_neg c6, if_neg c7, if_pos (by omega)]) (by decide)
    simp (maxDischargeDepth := 16) only [argE_nil, argE_cons, ↓vmD, vmV, vmStd, Nat.reduceMul, ↓reduceIte, Nat.reduceAdd, Nat.reduceSub, Nat.reduceEqDiff, Nat.reduceLT, Nat.reduceLeDiff, reduceCtorEq, Int.reduceToNat, Int.reduceLT, Int.reduceLE, Int.reduceEq, Int.reduceNeg, Int.reduceBEq, Int.reduceBNe, String.reduceEq, forall_const, ↓vmDA, vmVA, ↓vmQA, vmR, vmRA, ↓vmSA, vmSV, tyS, nuE, slIndexByte_v, indexByte_v, indexRune_v, containsRune_v, classOf_v, isWordByte_v, letter_v, digit_v, wordAt_v, rword_v, isName_v, risName_v, recId_v, rId13_v, moneyCur_v, rCur01_v, inTotal_v, rwithin1_v, exCard_v, recCheck_v, rrecCheck_v, dNext_v, rNext_v, holder_v, rholder_v, foll_v, rfoll_v, rDec_v, h1, h2, h3, h4, hf, rcd, q5, q6, q7, q8, h9, h10, h11, h12, h13, h14, hv]
  have c8 : ¬ (d < r.da ∨ 99999 < d) := by omega
  obtain ⟨m, rfl⟩ := Int.eq_ofNat_of_zero_le (show 0 ≤ n by omega)
  have hh : holdF t = 1 ∨ holdF t = 2 := by unfold holdF; split <;> (try split) <;> omega
  have dc := fun A => rDec_v m (by omega) A
  have wm : IntKind.i64.wrap (m : Int) = (m : Int) := w_i64 (by omega) (by omega)
  have s1 : c.id.size + (ByteArray.mk #[45]).size ≤ 9223372036854775807 := by rw [sz_dash]; omega
  have ds := dec_size m (by omega)
  have s2 : (c.id ++ ByteArray.mk #[45]).size + (decB m).size ≤ 9223372036854775807 := by
    rw [ByteArray.size_append, sz_dash]
    omega
  have xi : (c.id ++ ByteArray.mk #[45] ++ decB m).size ≤ 200000000000000 := by
    rw [ByteArray.size_append, ByteArray.size_append, sz_dash]
    omega
  obtain ⟨kd, hkd, hk2⟩ : ∃ kd : Int, (if holdF t = 2 then 4 else 3) = kd ∧ (holdF t == 2) = decide (kd = 4) := by
    rcases hh with h | h
    · exact ⟨3, by rw [h]; rfl, by rw [h]; rfl⟩
    · exact ⟨4, by rw [h]; rfl, by rw [h]; rfl⟩
  have hE : movE c r s t d (m : Int) = chkRG kd (c.id ++ ByteArray.mk #[45] ++ decB m) ⟨#[]⟩ r.aq r.is r.me r.ca c.am c.cu d r.ct := by
    unfold movE; rw [if_neg c1, if_neg c2, if_neg c3, if_neg c4, if_neg c5, if_neg c6, if_neg c7, if_neg c8]
    simp only [movR, movI, rcE, hkd, Int.toNat_natCast]
  have rcx := fun A => rrecCheck_v kd (c.id ++ ByteArray.mk #[45] ++ decB m) ⟨#[]⟩ r.aq r.is r.me r.ca c.am c.cu d r.ct true xi (by simp [ByteArray.size]) (by omega) (by omega) (by omega) (by omega) (by omega) A
  have hy : holdF s ≠ holdF t → chkRG kd (c.id ++ ByteArray.mk #[45] ++ decB m) ⟨#[]⟩ r.aq r.is r.me r.ca c.am c.cu d r.ct = 0 → movV c r s t d (m : Int) = .tuple #[.agg #[.int .i64 kd, .string (c.id ++ ByteArray.mk #[45] ++ decB m), .string ⟨#[]⟩, .string r.aq, .string r.is, .string r.me, .string r.ca, .int .i64 c.am, .string c.cu, .int .i64 d, .int .i64 r.ct, .bool true], .bool true, .int .i64 0] := by
    intro h16 h15
    rw [movV_yes (by rw [hE, h15]) h16, Rc.agg]
    simp only [movR, movI, hkd, Int.toNat_natCast]
  generalize chkRG kd (c.id ++ ByteArray.mk #[45] ++ decB m) ⟨#[]⟩ r.aq r.is r.me r.ca c.am c.cu d r.ct = k at hE rcx hy
  have hk : kd = 3 ∨ kd = 4 := by rw [← hkd]; split <;> simp
  rcases hk with rfl | rfl
  · have b2 : (holdF t == 2) = false := by rw [hk2]; rfl
    by_cases h15 : k = 0
    rotate_left
    · have hv := movV_err (c := c) (r := r) (s := s) (t := t) (d := d) (n := (m : Int)) (k := k) hE h15
      have q : (k != 0) = true := by simpa using h15
      simp (maxDischargeDepth := 16) only [argE_nil, argE_cons, ↓vmD, vmV, vmStd, Nat.reduceMul, ↓reduceIte, Nat.reduceAdd, Nat.reduceSub, Nat.reduceEqDiff, Nat.reduceLT, Nat.reduceLeDiff, reduceCtorEq, Int.reduceToNat, Int.reduceLT, Int.reduceLE, Int.reduceEq, Int.reduceNeg, Int.reduceBEq, Int.reduceBNe, String.reduceEq, forall_const, ↓vmDA, vmVA, ↓vmQA, vmR, vmRA, ↓vmSA, vmSV, tyS, nuE, slIndexByte_v, indexByte_v, indexRune_v, containsRune_v, classOf_v, isWordByte_v, letter_v, digit_v, wordAt_v, rword_v, isName_v, risName_v, recId_v, rId13_v, moneyCur_v, rCur01_v, inTotal_v, rwithin1_v, exCard_v, recCheck_v, rrecCheck_v, dNext_v, rNext_v, holder_v, rholder_v, foll_v, rfoll_v, rDec_v, h1, h2, h3, h4, hf, rcd, q5, q6, q7, q8, h9, h10, h11, h12, h13, h14, dc, wm, s1, s2, b2, rcx, q, hv]
    have q15 : (k != 0) = false := by simpa using h15
    by_cases h16 : holdF s = holdF t
    · have hv := movV_no (c := c) (r := r) (s := s) (t := t) (d := d) (n := (m : Int)) (by rw [hE, h15]) h16
      have q : (holdF s == holdF t) = true := by rw [h16]; exact BEq.rfl
      simp (maxDischargeDepth := 16) only [argE_nil, argE_cons, ↓vmD, vmV, vmStd, Nat.reduceMul, ↓reduceIte, Nat.reduceAdd, Nat.reduceSub, Nat.reduceEqDiff, Nat.reduceLT, Nat.reduceLeDiff, reduceCtorEq, Int.reduceToNat, Int.reduceLT, Int.reduceLE, Int.reduceEq, Int.reduceNeg, Int.reduceBEq, Int.reduceBNe, String.reduceEq, forall_const, ↓vmDA, vmVA, ↓vmQA, vmR, vmRA, ↓vmSA, vmSV, tyS, nuE, slIndexByte_v, indexByte_v, indexRune_v, containsRune_v, classOf_v, isWordByte_v, letter_v, digit_v, wordAt_v, rword_v, isName_v, risName_v, recId_v, rId13_v, moneyCur_v, rCur01_v, inTotal_v, rwithin1_v, exCard_v, recCheck_v, rrecCheck_v, dNext_v, rNext_v, holder_v, rholder_v, foll_v, rfoll_v, rDec_v, h1, h2, h3, h4, hf, rcd, q5, q6, q7, q8, h9, h10, h11, h12, h13, h14, dc, wm, s1, s2, b2, rcx, q, hv, q15]
    · have hv := hy h16 h15
      have q : (holdF s == holdF t) = false := by simpa using h16
      simp (maxDischargeDepth := 16) only [argE_nil, argE_cons, ↓vmD, vmV, vmStd, Nat.reduceMul, ↓reduceIte, Nat.reduceAdd, Nat.reduceSub, Nat.reduceEqDiff, Nat.reduceLT, Nat.reduceLeDiff, reduceCtorEq, Int.reduceToNat, Int.reduceLT, Int.reduceLE, Int.reduceEq, Int.reduceNeg, Int.reduceBEq, Int.reduceBNe, String.reduceEq, forall_const, ↓vmDA, vmVA, ↓vmQA, vmR, vmRA, ↓vmSA, vmSV, tyS, nuE, slIndexByte_v, indexByte_v, indexRune_v, containsRune_v, classOf_v, isWordByte_v, letter_v, digit_v, wordAt_v, rword_v, isName_v, risName_v, recId_v, rId13_v, moneyCur_v, rCur01_v, inTotal_v, rwithin1_v, exCard_v, recCheck_v, rrecCheck_v, dNext_v, rNext_v, holder_v, rholder_v, foll_v, rfoll_v, rDec_v, h1, h2, h3, h4, hf, rcd, q5, q6, q7, q8, h9, h10, h11, h12, h13, h14, dc, wm, s1, s2, b2, rcx, q, hv, q15]
  · have b2 : (holdF t == 2) = true := by rw [hk2]; rfl
    by_cases h15 : k = 0
    rotate_left
    · have hv := movV_err (c := c) (r := r) (s := s) (t := t) (d := d) (n := (m : Int)) (k := k) hE h15
      have q : (k != 0) = true := by simpa using h15
      simp (maxDischargeDepth := 16) only [argE_nil, argE_cons, ↓vmD, vmV, vmStd, Nat.reduceMul, ↓reduceIte, Nat.reduceAdd, Nat.reduceSub, Nat.reduceEqDiff, Nat.reduceLT, Nat.reduceLeDiff, reduceCtorEq, Int.reduceToNat, Int.reduceLT, Int.reduceLE, Int.reduceEq, Int.reduceNeg, Int.reduceBEq, Int.reduceBNe, String.reduceEq, forall_const, ↓vmDA, vmVA, ↓vmQA, vmR, vmRA, ↓vmSA, vmSV, tyS, nuE, slIndexByte_v, indexByte_v, indexRune_v, containsRune_v, classOf_v, isWordByte_v, letter_v, digit_v, wordAt_v, rword_v, isName_v, risName_v, recId_v, rId13_v, moneyCur_v, rCur01_v, inTotal_v, rwithin1_v, exCard_v, recCheck_v, rrecCheck_v, dNext_v, rNext_v, holder_v, rholder_v, foll_v, rfoll_v, rDec_v, h1, h2, h3, h4, hf, rcd, q5, q6, q7, q8, h9, h10, h11, h12, h13, h14, dc, wm, s1, s2, b2, rcx, q, hv]
    have q15 : (k != 0) = false := by simpa using h15
    by_cases h16 : holdF s = holdF t
    · have hv := movV_no (c := c) (r := r) (s := s) (t := t) (d := d) (n := (m : Int)) (by rw [hE, h15]) h16
      have q : (holdF s == holdF t) = true := by rw [h16]; exact BEq.rfl
      simp (maxDischargeDepth := 16) only [argE_nil, argE_cons, ↓vmD, vmV, vmStd, Nat.reduceMul, ↓reduceIte, Nat.reduceAdd, Nat.reduceSub, Nat.reduceEqDiff, Nat.reduceLT, Nat.reduceLeDiff, reduceCtorEq, Int.reduceToNat, Int.reduceLT, Int.reduceLE, Int.reduceEq, Int.reduceNeg, Int.reduceBEq, Int.reduceBNe, String.reduceEq, forall_const, ↓vmDA, vmVA, ↓vmQA, vmR, vmRA, ↓vmSA, vmSV, tyS, nuE, slIndexByte_v, indexByte_v, indexRune_v, containsRune_v, classOf_v, isWordByte_v, letter_v, digit_v, wordAt_v, rword_v, isName_v, risName_v, recId_v, rId13_v, moneyCur_v, rCur01_v, inTotal_v, rwithin1_v, exCard_v, recCheck_v, rrecCheck_v, dNext_v, rNext_v, holder_v, rholder_v, foll_v, rfoll_v, rDec_v, h1, h2, h3, h4, hf, rcd, q5, q6, q7, q8, h9, h10, h11, h12, h13, h14, dc, wm, s1, s2, b2, rcx, q, hv, q15]
    · have hv := hy h16 h15
      have q : (holdF s == holdF t) = false := by simpa using h16
      simp (maxDischargeDepth := 16) only [argE_nil, argE_cons, ↓vmD, vmV, vmStd, Nat.reduceMul, ↓reduceIte, Nat.reduceAdd, Nat.reduceSub, Nat.reduceEqDiff, Nat.reduceLT, Nat.reduceLeDiff, reduceCtorEq, Int.reduceToNat, Int.reduceLT, Int.reduceLE, Int.reduceEq, Int.reduceNeg, Int.reduceBEq, Int.reduceBNe, String.reduceEq, forall_const, ↓vmDA, vmVA, ↓vmQA, vmR, vmRA, ↓vmSA, vmSV, tyS, nuE, slIndexByte_v, indexByte_v, indexRune_v, containsRune_v, classOf_v, isWordByte_v, letter_v, digit_v, wordAt_v, rword_v, isName_v, risName_v, recId_v, rId13_v, moneyCur_v, rCur01_v, inTotal_v, rwithin1_v, exCard_v, recCheck_v, rrecCheck_v, dNext_v, rNext_v, holder_v, rholder_v, foll_v, rfoll_v, rDec_v, h1, h2, h3, h4, hf, rcd, q5, q6, q7, q8, h9, h10, h11, h12, h13, h14, dc, wm, s1, s2, b2, rcx, q, hv, q15]
theorem rMove_v (c : Cs) (r : Rc) (s t d n : Int) (hc : SzC c) (hr : SzR r) (A_ : AH) : valA Tryd.prog 13 #[.agg #[.string c.id, .string c.rc, .string c.rs, .string c.is, .string c.aq, .int .i64 c.am, .string c.cu, .int .i64 c.st, .int .i64 c.op, .int .i64 c.du], .agg #[.int .i64 r.kd, .string r.id, .string r.au, .string r.aq, .string r.is, .string r.me, .string r.ca, .int .i64 r.am, .string r.cu, .int .i64 r.da, .int .i64 r.ct, .bool r.fi], .int .i64 s, .int .i64 t, .int .i64 d, .int .i64 n] A_ = some (movV c r s t d n) := valA_eq (pureA_of (by kernel_rfl) (rMove_h c r s t d n hc hr))
end Go.Proofs.YtejcnpllodgmlaaDoor
