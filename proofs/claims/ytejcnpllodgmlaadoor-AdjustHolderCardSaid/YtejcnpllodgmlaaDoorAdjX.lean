/-
Adjustments: the walks of a movement.
Conditions: none.
-/
import Derived.Test.YtejcnpllodgmlaaDoorAdjW
namespace Go.Proofs.YtejcnpllodgmlaaDoor
open Go.Vm
set_option linter.unusedSimpArgs false
set_option linter.unusedVariables false
set_option maxHeartbeats 4000000
set_option maxRecDepth 20000
def SzR (r : Rc) : Prop := r.id.size ≤ 140737488351232 ∧ r.au.size ≤ 140737488351232 ∧ r.aq.size ≤ 140737488351232 ∧ r.is.size ≤ 140737488351232 ∧ r.me.size ≤ 140737488351232 ∧ r.ca.size ≤ 140737488351232 ∧ r.cu.size ≤ 140737488351232
def SzC (c : Cs) : Prop := c.id.size ≤ 140737488351232 ∧ c.cu.size ≤ 140737488351232
theorem movV_err {c : Cs} {r : Rc} {s t d n k : Int} (h : movE c r s t d n = k) (hk : k ≠ 0) : movV c r s t d n = .tuple #[.agg #[.int .i64 0, .string ⟨#[]⟩, .string ⟨#[]⟩, .string ⟨#[]⟩, .string ⟨#[]⟩, .string ⟨#[]⟩, .string ⟨#[]⟩, .int .i64 0, .string ⟨#[]⟩, .int .i64 0, .int .i64 0, .bool false], .bool false, .int .i64 k] := by
  have hn : ¬ movE c r s t d n = 0 := by rw [h]; exact hk
  unfold movV movX movB
  rw [if_neg (fun x => hn x.1), h, decide_eq_false (fun x => hk x.1)]
  rfl
theorem movV_no {c : Cs} {r : Rc} {s t d n : Int} (h : movE c r s t d n = 0) (hk : holdF s = holdF t) : movV c r s t d n = .tuple #[.agg #[.int .i64 0, .string ⟨#[]⟩, .string ⟨#[]⟩, .string ⟨#[]⟩, .string ⟨#[]⟩, .string ⟨#[]⟩, .string ⟨#[]⟩, .int .i64 0, .string ⟨#[]⟩, .int .i64 0, .int .i64 0, .bool false], .bool false, .int .i64 0] := by
  unfold movV movX movB
  rw [if_neg (fun x => x.2 hk), h, decide_eq_false (fun x => x.2 hk)]
  rfl
theorem movV_yes {c : Cs} {r : Rc} {s t d n : Int} (h : movE c r s t d n = 0) (hk : holdF s ≠ holdF t) : movV c r s t d n = .tuple #[.agg (movR c r t d n.toNat).cells.toArray, .bool true, .int .i64 0] := by
  unfold movV movX movB
  rw [if_pos ⟨h, hk⟩, h, decide_eq_true ⟨rfl, hk⟩]
theorem dec_size (n : Nat) (h : n ≤ 99) : (decB n).size ≤ 2 := by
  unfold decB
  rw [bs_size]
  exact dec_len 2 n (by omega) (by omega)
theorem movI_size {c : Cs} {n : Nat} (hn : n ≤ 99) : (movI c n).size ≤ c.id.size + 3 := by
  have := dec_size n hn
  unfold movI
  simp only [ByteArray.size_append]
  have : (ByteArray.mk #[45]).size = 1 := rfl
  omega
theorem ba_beq_ne {a b : ByteArray} (h : a ≠ b) : (a.toList == b.toList) = false := by
  rw [beq_eq_false_iff_ne]
  intro e
  rw [ByteArray.toList_eq, ByteArray.toList_eq] at e
  exact h (ba_ext e)
theorem sz_dash : (ByteArray.mk #[45]).size = 1 := rfl
theorem movem_h (A : AH) (hT : TabA A) (c : Cs) (r : Rc) (t d : Int) (n : Nat) (hn : n ≤ 99) (hh : holdF t = 1 ∨ holdF t = 2) (hc : SzC c) (x : Rc) (hx : x = movR c r t d n) : CallA Tryd.prog 22 #[.agg #[.string c.id, .string c.rc, .string c.rs, .string c.is, .string c.aq, .int .i64 c.am, .string c.cu, .int .i64 c.st, .int .i64 c.op, .int .i64 c.du], .agg #[.int .i64 r.kd, .string r.id, .string r.au, .string r.aq, .string r.is, .string r.me, .string r.ca, .int .i64 r.am, .string r.cu, .int .i64 r.da, .int .i64 r.ct, .bool r.fi], .int .i64 t, .int .i64 d, .int .i64 (n : Int)] A (fun u_ A_ => u_ = .agg #[.int .i64 x.kd, .string x.id, .string x.au, .string x.aq, .string x.is, .string x.me, .string x.ca, .int .i64 x.am, .string x.cu, .int .i64 x.da, .int .i64 x.ct, .bool x.fi] ∧ SubA A A_) := by
  refine callA_of_denA ⟨Tryd.prog, 22, Tryd.f22, 31, [0, 1, 2, 3, 4, 5, 6, 10], [], [(4, .p [(0, 0), (1, 0), (2, 0), (3, 0), (4, 0), (5, 0), (6, 0), (7, 2)])], _⟩ (args := [_, _, _, _, _]) Tryd.func22 rfl (by kernel_rfl) Tryd.ntmps22 (by simp) (by kernel_rfl) ?_
  intro ν fr; have nuE := fr.nu
  obtain ⟨y1, y2⟩ := hc
  have it := fun B hB => itoa_w A hT n (by omega) (by omega) B hB
  have e1 : Lib.itoa (n : Int) = Lib.decDigits n := by unfold Lib.itoa; rw [if_neg (by omega)]; simp
  rw [e1] at it
  have s1 : c.id.size + (ByteArray.mk #[45]).size ≤ 9223372036854775807 := by rw [sz_dash]; omega
  have s2 : (c.id ++ ByteArray.mk #[45]).size + (bs (Lib.decDigits n)).size ≤ 9223372036854775807 := by
    have := dec_size n hn
    unfold decB at this
    rw [ByteArray.size_append, sz_dash]
    omega
  subst hx
  rcases hh with h | h
  · have b1 : (holdF t == 1) = true := by rw [h]; rfl
    simp (maxDischargeDepth := 16) only [argE_nil, argE_cons, ↓vmD, vmV, vmStd, Nat.reduceMul, ↓reduceIte, Nat.reduceAdd, Nat.reduceSub, Nat.reduceEqDiff, Nat.reduceLT, Nat.reduceLeDiff, reduceCtorEq, Int.reduceToNat, Int.reduceLT, Int.reduceLE, Int.reduceEq, Int.reduceNeg, Int.reduceBEq, Int.reduceBNe, String.reduceEq, forall_const, ↓vmDA, vmVA, ↓vmQA, vmR, vmRA, ↓vmSA, vmSV, tyS, nuE, SubA.skip, SubA.refl, fr.2, slIndexByte_v, indexByte_v, indexRune_v, containsRune_v, classOf_v, isWordByte_v, letter_v, digit_v, wordAt_v, rword_v, isName_v, risName_v, recId_v, rId13_v, moneyCur_v, rCur01_v, inTotal_v, rwithin1_v, exCard_v, recCheck_v, rrecCheck_v, dNext_v, rNext_v, holder_v, rholder_v, foll_v, rfoll_v, rDec_v, it, s1, s2, h, b1, movR, movI, decB]
  · have b1 : (holdF t == 1) = false := by rw [h]; rfl
    simp (maxDischargeDepth := 16) only [argE_nil, argE_cons, ↓vmD, vmV, vmStd, Nat.reduceMul, ↓reduceIte, Nat.reduceAdd, Nat.reduceSub, Nat.reduceEqDiff, Nat.reduceLT, Nat.reduceLeDiff, reduceCtorEq, Int.reduceToNat, Int.reduceLT, Int.reduceLE, Int.reduceEq, Int.reduceNeg, Int.reduceBEq, Int.reduceBNe, String.reduceEq, forall_const, ↓vmDA, vmVA, ↓vmQA, vmR, vmRA, ↓vmSA, vmSV, tyS, nuE, SubA.skip, SubA.refl, fr.2, slIndexByte_v, indexByte_v, indexRune_v, containsRune_v, classOf_v, isWordByte_v, letter_v, digit_v, wordAt_v, rword_v, isName_v, risName_v, recId_v, rId13_v, moneyCur_v, rCur01_v, inTotal_v, rwithin1_v, exCard_v, recCheck_v, rrecCheck_v, dNext_v, rNext_v, holder_v, rholder_v, foll_v, rfoll_v, rDec_v, it, s1, s2, h, b1, movR, movI, decB]
theorem movem_w (A : AH) (hT : TabA A) (c : Cs) (r : Rc) (t d : Int) (n : Nat) (hn : n ≤ 99) (hh : holdF t = 1 ∨ holdF t = 2) (hc : SzC c) (x : Rc) (hx : x = movR c r t d n) (B_ : AH) (hB_ : SubA A B_) : valA Tryd.prog 22 #[.agg #[.string c.id, .string c.rc, .string c.rs, .string c.is, .string c.aq, .int .i64 c.am, .string c.cu, .int .i64 c.st, .int .i64 c.op, .int .i64 c.du], .agg #[.int .i64 r.kd, .string r.id, .string r.au, .string r.aq, .string r.is, .string r.me, .string r.ca, .int .i64 r.am, .string r.cu, .int .i64 r.da, .int .i64 r.ct, .bool r.fi], .int .i64 t, .int .i64 d, .int .i64 (n : Int)] B_ = some (.agg #[.int .i64 x.kd, .string x.id, .string x.au, .string x.aq, .string x.is, .string x.me, .string x.ca, .int .i64 x.am, .string x.cu, .int .i64 x.da, .int .i64 x.ct, .bool x.fi]) := valA_eq (pureA_at (by kernel_rfl) (movem_h A hT c r t d n hn hh hc x hx) hB_)
theorem movem_v (A : AH) (hT : TabA A) (c : Cs) (r : Rc) (t d : Int) (n : Nat) (hn : n ≤ 99) (hh : holdF t = 1 ∨ holdF t = 2) (hc : SzC c) (x : Rc) (hx : x = movR c r t d n) : valA Tryd.prog 22 #[.agg #[.string c.id, .string c.rc, .string c.rs, .string c.is, .string c.aq, .int .i64 c.am, .string c.cu, .int .i64 c.st, .int .i64 c.op, .int .i64 c.du], .agg #[.int .i64 r.kd, .string r.id, .string r.au, .string r.aq, .string r.is, .string r.me, .string r.ca, .int .i64 r.am, .string r.cu, .int .i64 r.da, .int .i64 r.ct, .bool r.fi], .int .i64 t, .int .i64 d, .int .i64 (n : Int)] A = some (.agg #[.int .i64 x.kd, .string x.id, .string x.au, .string x.aq, .string x.is, .string x.me, .string x.ca, .int .i64 x.am, .string x.cu, .int .i64 x.da, .int .i64 x.ct, .bool x.fi]) := valA_eq (pureA_at (by kernel_rfl) (movem_h A hT c r t d n hn hh hc x hx) (SubA.refl _))
theorem panMove_h (A : AH) (hT : TabA A) (c : Cs) (r : Rc) (s t d n : Int) (hc : SzC c) (hr : SzR r) : CallA Tryd.prog 12 #[.agg #[.string c.id, .string c.rc, .string c.rs, .string c.is, .string c.aq, .int .i64 c.am, .string c.cu, .int .i64 c.st, .int .i64 c.op, .int .i64 c.du], .agg #[.int .i64 r.kd, .string r.id, .string r.au, .string r.aq, .string r.is, .string r.me, .string r.ca, .int .i64 r.am, .string r.cu, .int .i64 r.da, .int .i64 r.ct, .bool r.fi], .int .i64 s, .int .i64 t, .int .i64 d, .int .i64 n] A (fun u_ A_ => u_ = movV c r s t d n ∧ SubA A A_) := by
  refine callA_of_denA ⟨Tryd.prog, 12, Tryd.f12, 112, [0, 1, 2, 3, 4, 5, 6, 7, 12, 13, 14, 15, 16, 17], [], [], _⟩ (args := [_, _, _, _, _, _]) Tryd.func12 rfl (by kernel_rfl) Tryd.ntmps12 (by simp) (by kernel_rfl) ?_
  intro ν fr; have nuE := fr.nu
  obtain ⟨z1, z2, z3, z4, z5, z6, z7⟩ := hr
  obtain ⟨y1, y2⟩ := hc
  by_cases h1 : s < 0
  · have hv := movV_err (c := c) (r := r) (s := s) (t := t) (d := d) (n := n) (k := 4) (by unfold movE; rw [if_pos (by omega)]) (by decide)
    simp (maxDischargeDepth := 16) only [argE_nil, argE_cons, ↓vmD, vmV, vmStd, Nat.reduceMul, ↓reduceIte, Nat.reduceAdd, Nat.reduceSub, Nat.reduceEqDiff, Nat.reduceLT, Nat.reduceLeDiff, reduceCtorEq, Int.reduceToNat, Int.reduceLT, Int.reduceLE, Int.reduceEq, Int.reduceNeg, Int.reduceBEq, Int.reduceBNe, String.reduceEq, forall_const, ↓vmDA, vmVA, ↓vmQA, vmR, vmRA, ↓vmSA, vmSV, tyS, nuE, SubA.skip, SubA.refl, fr.2, slIndexByte_v, indexByte_v, indexRune_v, containsRune_v, classOf_v, isWordByte_v, letter_v, digit_v, wordAt_v, rword_v, isName_v, risName_v, recId_v, rId13_v, moneyCur_v, rCur01_v, inTotal_v, rwithin1_v, exCard_v, recCheck_v, rrecCheck_v, dNext_v, rNext_v, holder_v, rholder_v, foll_v, rfoll_v, rDec_v, h1, hv]
  by_cases h2 : 6 < s
  · have hv := movV_err (c := c) (r := r) (s := s) (t := t) (d := d) (n := n) (k := 4) (by unfold movE; rw [if_pos (by omega)]) (by decide)
    simp (maxDischargeDepth := 16) only [argE_nil, argE_cons, ↓vmD, vmV, vmStd, Nat.reduceMul, ↓reduceIte, Nat.reduceAdd, Nat.reduceSub, Nat.reduceEqDiff, Nat.reduceLT, Nat.reduceLeDiff, reduceCtorEq, Int.reduceToNat, Int.reduceLT, Int.reduceLE, Int.reduceEq, Int.reduceNeg, Int.reduceBEq, Int.reduceBNe, String.reduceEq, forall_const, ↓vmDA, vmVA, ↓vmQA, vmR, vmRA, ↓vmSA, vmSV, tyS, nuE, SubA.skip, SubA.refl, fr.2, slIndexByte_v, indexByte_v, indexRune_v, containsRune_v, classOf_v, isWordByte_v, letter_v, digit_v, wordAt_v, rword_v, isName_v, risName_v, recId_v, rId13_v, moneyCur_v, rCur01_v, inTotal_v, rwithin1_v, exCard_v, recCheck_v, rrecCheck_v, dNext_v, rNext_v, holder_v, rholder_v, foll_v, rfoll_v, rDec_v, h1, h2, hv]
  by_cases h3 : t < 1
  · have hv := movV_err (c := c) (r := r) (s := s) (t := t) (d := d) (n := n) (k := 4) (by unfold movE; rw [if_pos (by omega)]) (by decide)
    simp (maxDischargeDepth := 16) only [argE_nil, argE_cons, ↓vmD, vmV, vmStd, Nat.reduceMul, ↓reduceIte, Nat.reduceAdd, Nat.reduceSub, Nat.reduceEqDiff, Nat.reduceLT, Nat.reduceLeDiff, reduceCtorEq, Int.reduceToNat, Int.reduceLT, Int.reduceLE, Int.reduceEq, Int.reduceNeg, Int.reduceBEq, Int.reduceBNe, String.reduceEq, forall_const, ↓vmDA, vmVA, ↓vmQA, vmR, vmRA, ↓vmSA, vmSV, tyS, nuE, SubA.skip, SubA.refl, fr.2, slIndexByte_v, indexByte_v, indexRune_v, containsRune_v, classOf_v, isWordByte_v, letter_v, digit_v, wordAt_v, rword_v, isName_v, risName_v, recId_v, rId13_v, moneyCur_v, rCur01_v, inTotal_v, rwithin1_v, exCard_v, recCheck_v, rrecCheck_v, dNext_v, rNext_v, holder_v, rholder_v, foll_v, rfoll_v, rDec_v, h1, h2, h3, hv]
  by_cases h4 : 6 < t
  · have hv := movV_err (c := c) (r := r) (s := s) (t := t) (d := d) (n := n) (k := 4) (by unfold movE; rw [if_pos (by omega)]) (by decide)
    simp (maxDischargeDepth := 16) only [argE_nil, argE_cons, ↓vmD, vmV, vmStd, Nat.reduceMul, ↓reduceIte, Nat.reduceAdd, Nat.reduceSub, Nat.reduceEqDiff, Nat.reduceLT, Nat.reduceLeDiff, reduceCtorEq, Int.reduceToNat, Int.reduceLT, Int.reduceLE, Int.reduceEq, Int.reduceNeg, Int.reduceBEq, Int.reduceBNe, String.reduceEq, forall_const, ↓vmDA, vmVA, ↓vmQA, vmR, vmRA, ↓vmSA, vmSV, tyS, nuE, SubA.skip, SubA.refl, fr.2, slIndexByte_v, indexByte_v, indexRune_v, containsRune_v, classOf_v, isWordByte_v, letter_v, digit_v, wordAt_v, rword_v, isName_v, risName_v, recId_v, rId13_v, moneyCur_v, rCur01_v, inTotal_v, rwithin1_v, exCard_v, recCheck_v, rrecCheck_v, dNext_v, rNext_v, holder_v, rholder_v, foll_v, rfoll_v, rDec_v, h1, h2, h3, h4, hv]
  have c1 : ¬ (s < 0 ∨ 6 < s ∨ t < 1 ∨ 6 < t) := by omega
  cases hf : follF s t with
  | false =>
    have hv := movV_err (c := c) (r := r) (s := s) (t := t) (d := d) (n := n) (k := 8) (by unfold movE; rw [if_neg c1, if_pos hf]) (by decide)
    simp (maxDischargeDepth := 16) only [argE_nil, argE_cons, ↓vmD, vmV, vmStd, Nat.reduceMul, ↓reduceIte, Nat.reduceAdd, Nat.reduceSub, Nat.reduceEqDiff, Nat.reduceLT, Nat.reduceLeDiff, reduceCtorEq, Int.reduceToNat, Int.reduceLT, Int.reduceLE, Int.reduceEq, Int.reduceNeg, Int.reduceBEq, Int.reduceBNe, String.reduceEq, forall_const, ↓vmDA, vmVA, ↓vmQA, vmR, vmRA, ↓vmSA, vmSV, tyS, nuE, SubA.skip, SubA.refl, fr.2, slIndexByte_v, indexByte_v, indexRune_v, containsRune_v, classOf_v, isWordByte_v, letter_v, digit_v, wordAt_v, rword_v, isName_v, risName_v, recId_v, rId13_v, moneyCur_v, rCur01_v, inTotal_v, rwithin1_v, exCard_v, recCheck_v, rrecCheck_v, dNext_v, rNext_v, holder_v, rholder_v, foll_v, rfoll_v, rDec_v, h1, h2, h3, h4, hf, hv]
  | true =>
  have c2 : ¬ follF s t = false := by rw [hf]; simp
  have rcd := fun A => recCheck_v r.kd r.id r.au r.aq r.is r.me r.ca r.am r.cu r.da r.ct r.fi (by omega) (by omega) (by omega) (by omega) (by omega) (by omega) (by omega) A
  rw [show chkRG r.kd r.id r.au r.aq r.is r.me r.ca r.am r.cu r.da r.ct = rcE r from rfl] at rcd
  by_cases h5 : rcE r = 0
  rotate_left
  · have hv := movV_err (c := c) (r := r) (s := s) (t := t) (d := d) (n := n) (k := rcE r) (by unfold movE; rw [if_neg c1, if_neg c2, if_pos h5]) h5
    have q : (rcE r != 0) = true := by simpa using h5
    simp (maxDischargeDepth := 16) only [argE_nil, argE_cons, ↓vmD, vmV, vmStd, Nat.reduceMul, ↓reduceIte, Nat.reduceAdd, Nat.reduceSub, Nat.reduceEqDiff, Nat.reduceLT, Nat.reduceLeDiff, reduceCtorEq, Int.reduceToNat, Int.reduceLT, Int.reduceLE, Int.reduceEq, Int.reduceNeg, Int.reduceBEq, Int.reduceBNe, String.reduceEq, forall_const, ↓vmDA, vmVA, ↓vmQA, vmR, vmRA, ↓vmSA, vmSV, tyS, nuE, SubA.skip, SubA.refl, fr.2, slIndexByte_v, indexByte_v, indexRune_v, containsRune_v, classOf_v, isWordByte_v, letter_v, digit_v, wordAt_v, rword_v, isName_v, risName_v, recId_v, rId13_v, moneyCur_v, rCur01_v, inTotal_v, rwithin1_v, exCard_v, recCheck_v, rrecCheck_v, dNext_v, rNext_v, holder_v, rholder_v, foll_v, rfoll_v, rDec_v, h1, h2, h3, h4, hf, rcd, q, hv]
  have c3 : ¬ rcE r ≠ 0 := by simpa using h5
  have q5 : (rcE r != 0) = false := by simpa using h5
  by_cases h6 : r.kd = 1
  rotate_left
  · have hv := movV_err (c := c) (r := r) (s := s) (t := t) (d := d) (n := n) (k := 4) (by unfold movE; rw [if_neg c1, if_neg c2, if_neg c3, if_pos h6]) (by decide)
    have q : (r.kd != 1) = true := by simpa using h6
    simp (maxDischargeDepth := 16) only [argE_nil, argE_cons, ↓vmD, vmV, vmStd, Nat.reduceMul, ↓reduceIte, Nat.reduceAdd, Nat.reduceSub, Nat.reduceEqDiff, Nat.reduceLT, Nat.reduceLeDiff, reduceCtorEq, Int.reduceToNat, Int.reduceLT, Int.reduceLE, Int.reduceEq, Int.reduceNeg, Int.reduceBEq, Int.reduceBNe, String.reduceEq, forall_const, ↓vmDA, vmVA, ↓vmQA, vmR, vmRA, ↓vmSA, vmSV, tyS, nuE, SubA.skip, SubA.refl, fr.2, slIndexByte_v, indexByte_v, indexRune_v, containsRune_v, classOf_v, isWordByte_v, letter_v, digit_v, wordAt_v, rword_v, isName_v, risName_v, recId_v, rId13_v, moneyCur_v, rCur01_v, inTotal_v, rwithin1_v, exCard_v, recCheck_v, rrecCheck_v, dNext_v, rNext_v, holder_v, rholder_v, foll_v, rfoll_v, rDec_v, h1, h2, h3, h4, hf, rcd, q5, q, hv]
  have c4 : ¬ r.kd ≠ 1 := by simpa using h6
  have q6 : (r.kd != 1) = false := by simpa using h6
  by_cases h7 : c.rc = r.id
  rotate_left
  · have hv := movV_err (c := c) (r := r) (s := s) (t := t) (d := d) (n := n) (k := 6) (by unfold movE; rw [if_neg c1, if_neg c2, if_neg c3, if_neg c4, if_pos h7]) (by decide)
    have q : (c.rc.toList == r.id.toList) = false := ba_beq_ne h7
    simp (maxDischargeDepth := 16) only [argE_nil, argE_cons, ↓vmD, vmV, vmStd, Nat.reduceMul, ↓reduceIte, Nat.reduceAdd, Nat.reduceSub, Nat.reduceEqDiff, Nat.reduceLT, Nat.reduceLeDiff, reduceCtorEq, Int.reduceToNat, Int.reduceLT, Int.reduceLE, Int.reduceEq, Int.reduceNeg, Int.reduceBEq, Int.reduceBNe, String.reduceEq, forall_const, ↓vmDA, vmVA, ↓vmQA, vmR, vmRA, ↓vmSA, vmSV, tyS, nuE, SubA.skip, SubA.refl, fr.2, slIndexByte_v, indexByte_v, indexRune_v, containsRune_v, classOf_v, isWordByte_v, letter_v, digit_v, wordAt_v, rword_v, isName_v, risName_v, recId_v, rId13_v, moneyCur_v, rCur01_v, inTotal_v, rwithin1_v, exCard_v, recCheck_v, rrecCheck_v, dNext_v, rNext_v, holder_v, rholder_v, foll_v, rfoll_v, rDec_v, h1, h2, h3, h4, hf, rcd, q5, q6, q, hv]
  have c5 : ¬ c.rc ≠ r.id := by simpa using h7
  have q7 : (c.rc.toList == r.id.toList) = true := by rw [h7]; exact BEq.rfl
  by_cases h8 : c.cu = r.cu
  rotate_left
  · have hv := movV_err (c := c) (r := r) (s := s) (t := t) (d := d) (n := n) (k := 11) (by unfold movE; rw [if_neg c1, if_neg c2, if_neg c3, if_neg c4, if_neg c5, if_pos h8]) (by decide)
    have q : (c.cu.toList == r.cu.toList) = false := ba_beq_ne h8
    simp (maxDischargeDepth := 16) only [argE_nil, argE_cons, ↓vmD, vmV, vmStd, Nat.reduceMul, ↓reduceIte, Nat.reduceAdd, Nat.reduceSub, Nat.reduceEqDiff, Nat.reduceLT, Nat.reduceLeDiff, reduceCtorEq, Int.reduceToNat, Int.reduceLT, Int.reduceLE, Int.reduceEq, Int.reduceNeg, Int.reduceBEq, Int.reduceBNe, String.reduceEq, forall_const, ↓vmDA, vmVA, ↓vmQA, vmR, vmRA, ↓vmSA, vmSV, tyS, nuE, SubA.skip, SubA.refl, fr.2, slIndexByte_v, indexByte_v, indexRune_v, containsRune_v, classOf_v, isWordByte_v, letter_v, digit_v, wordAt_v, rword_v, isName_v, risName_v, recId_v, rId13_v, moneyCur_v, rCur01_v, inTotal_v, rwithin1_v, exCard_v, recCheck_v, rrecCheck_v, dNext_v, rNext_v, holder_v, rholder_v, foll_v, rfoll_v, rDec_v, h1, h2, h3, h4, hf, rcd, q5, q6, q7, q, hv]
  have c6 : ¬ c.cu ≠ r.cu := by simpa using h8
  have q8 : (c.cu.toList == r.cu.toList) = true := by rw [h8]; exact BEq.rfl
  by_cases h9 : c.am < 1
  · have hv := movV_err (c := c) (r := r) (s := s) (t := t) (d := d) (n := n) (k := 4) (by unfold movE; rw [if_neg c1, if_neg c2, if_neg c3, if_neg c4, if_neg c5, if_neg c6, if_pos (by omega)]) (by decide)
    simp (maxDischargeDepth := 16) only [argE_nil, argE_cons, ↓vmD, vmV, vmStd, Nat.reduceMul, ↓reduceIte, Nat.reduceAdd, Nat.reduceSub, Nat.reduceEqDiff, Nat.reduceLT, Nat.reduceLeDiff, reduceCtorEq, Int.reduceToNat, Int.reduceLT, Int.reduceLE, Int.reduceEq, Int.reduceNeg, Int.reduceBEq, Int.reduceBNe, String.reduceEq, forall_const, ↓vmDA, vmVA, ↓vmQA, vmR, vmRA, ↓vmSA, vmSV, tyS, nuE, SubA.skip, SubA.refl, fr.2, slIndexByte_v, indexByte_v, indexRune_v, containsRune_v, classOf_v, isWordByte_v, letter_v, digit_v, wordAt_v, rword_v, isName_v, risName_v, recId_v, rId13_v, moneyCur_v, rCur01_v, inTotal_v, rwithin1_v, exCard_v, recCheck_v, rrecCheck_v, dNext_v, rNext_v, holder_v, rholder_v, foll_v, rfoll_v, rDec_v, h1, h2, h3, h4, hf, rcd, q5, q6, q7, q8, h9, hv]
  by_cases h10 : r.am < c.am
  · have hv := movV_err (c := c) (r := r) (s := s) (t := t) (d := d) (n := n) (k := 4) (by unfold movE; rw [if_neg c1, if_neg c2, if_neg c3, if_neg c4, if_neg c5, if_neg c6, if_pos (by omega)]) (by decide)
    simp (maxDischargeDepth := 16) only [argE_nil, argE_cons, ↓vmD, vmV, vmStd, Nat.reduceMul, ↓reduceIte, Nat.reduceAdd, Nat.reduceSub, Nat.reduceEqDiff, Nat.reduceLT, Nat.reduceLeDiff, reduceCtorEq, Int.reduceToNat, Int.reduceLT, Int.reduceLE, Int.reduceEq, Int.reduceNeg, Int.reduceBEq, Int.reduceBNe, String.reduceEq, forall_const, ↓vmDA, vmVA, ↓vmQA, vmR, vmRA, ↓vmSA, vmSV, tyS, nuE, SubA.skip, SubA.refl, fr.2, slIndexByte_v, indexByte_v, indexRune_v, containsRune_v, classOf_v, isWordByte_v, letter_v, digit_v, wordAt_v, rword_v, isName_v, risName_v, recId_v, rId13_v, moneyCur_v, rCur01_v, inTotal_v, rwithin1_v, exCard_v, recCheck_v, rrecCheck_v, dNext_v, rNext_v, holder_v, rholder_v, foll_v, rfoll_v, rDec_v, h1, h2, h3, h4, hf, rcd, q5, q6, q7, q8, h9, h10, hv]
  by_cases h11 : n < 1
  · have hv := movV_err (c := c) (r := r) (s := s) (t := t) (d := d) (n := n) (k := 4) (by unfold movE; rw [if_neg c1, if_neg c2, if_neg c3, if_neg c4, if_neg c5, if_neg c6, if_pos (by omega)]) (by decide)
    simp (maxDischargeDepth := 16) only [argE_nil, argE_cons, ↓vmD, vmV, vmStd, Nat.reduceMul, ↓reduceIte, Nat.reduceAdd, Nat.reduceSub, Nat.reduceEqDiff, Nat.reduceLT, Nat.reduceLeDiff, reduceCtorEq, Int.reduceToNat, Int.reduceLT, Int.reduceLE, Int.reduceEq, Int.reduceNeg, Int.reduceBEq, Int.reduceBNe, String.reduceEq, forall_const, ↓vmDA, vmVA, ↓vmQA, vmR, vmRA, ↓vmSA, vmSV, tyS, nuE, SubA.skip, SubA.refl, fr.2, slIndexByte_v, indexByte_v, indexRune_v, containsRune_v, classOf_v, isWordByte_v, letter_v, digit_v, wordAt_v, rword_v, isName_v, risName_v, recId_v, rId13_v, moneyCur_v, rCur01_v, inTotal_v, rwithin1_v, exCard_v, recCheck_v, rrecCheck_v, dNext_v, rNext_v, holder_v, rholder_v, foll_v, rfoll_v, rDec_v, h1, h2, h3, h4, hf, rcd, q5, q6, q7, q8, h9, h10, h11, hv]
  by_cases h12 : 99 < n
  · have hv := movV_err (c := c) (r := r) (s := s) (t := t) (d := d) (n := n) (k := 4) (by unfold movE; rw [if_neg c1, if_neg c2, if_neg c3, if_neg c4, if_neg c5, if_neg c6, if_pos (by omega)]) (by decide)
    simp (maxDischargeDepth := 16) only [argE_nil, argE_cons, ↓vmD, vmV, vmStd, Nat.reduceMul, ↓reduceIte, Nat.reduceAdd, Nat.reduceSub, Nat.reduceEqDiff, Nat.reduceLT, Nat.reduceLeDiff, reduceCtorEq, Int.reduceToNat, Int.reduceLT, Int.reduceLE, Int.reduceEq, Int.reduceNeg, Int.reduceBEq, Int.reduceBNe, String.reduceEq, forall_const, ↓vmDA, vmVA, ↓vmQA, vmR, vmRA, ↓vmSA, vmSV, tyS, nuE, SubA.skip, SubA.refl, fr.2, slIndexByte_v, indexByte_v, indexRune_v, containsRune_v, classOf_v, isWordByte_v, letter_v, digit_v, wordAt_v, rword_v, isName_v, risName_v, recId_v, rId13_v, moneyCur_v, rCur01_v, inTotal_v, rwithin1_v, exCard_v, recCheck_v, rrecCheck_v, dNext_v, rNext_v, holder_v, rholder_v, foll_v, rfoll_v, rDec_v, h1, h2, h3, h4, hf, rcd, q5, q6, q7, q8, h9, h10, h11, h12, hv]
  have c7 : ¬ (c.am < 1 ∨ r.am < c.am ∨ n < 1 ∨ 99 < n) := by omega
  by_cases h13 : d < r.da
  · have hv := movV_err (c := c) (r := r) (s := s) (t := t) (d := d) (n := n) (k := 14) (by unfold movE; rw [if_neg c1, if_neg c2, if_neg c3, if_neg c4, if_neg c5, if_neg c6, if_neg c7, if_pos (by omega)]) (by decide)
    simp (maxDischargeDepth := 16) only [argE_nil, argE_cons, ↓vmD, vmV, vmStd, Nat.reduceMul, ↓reduceIte, Nat.reduceAdd, Nat.reduceSub, Nat.reduceEqDiff, Nat.reduceLT, Nat.reduceLeDiff, reduceCtorEq, Int.reduceToNat, Int.reduceLT, Int.reduceLE, Int.reduceEq, Int.reduceNeg, Int.reduceBEq, Int.reduceBNe, String.reduceEq, forall_const, ↓vmDA, vmVA, ↓vmQA, vmR, vmRA, ↓vmSA, vmSV, tyS, nuE, SubA.skip, SubA.refl, fr.2, slIndexByte_v, indexByte_v, indexRune_v, containsRune_v, classOf_v, isWordByte_v, letter_v, digit_v, wordAt_v, rword_v, isName_v, risName_v, recId_v, rId13_v, moneyCur_v, rCur01_v, inTotal_v, rwithin1_v, exCard_v, recCheck_v, rrecCheck_v, dNext_v, rNext_v, holder_v, rholder_v, foll_v, rfoll_v, rDec_v, h1, h2, h3, h4, hf, rcd, q5, q6, q7, q8, h9, h10, h11, h12, h13, hv]
  by_cases h14 : 99999 < d
  · have hv := movV_err (c := c) (r := r) (s := s) (t := t) (d := d) (n := n) (k := 14) (by unfold movE; rw [if_neg c1, if_neg c2, if_neg c3, if_neg c4, if_neg c5, if_neg c6, if_neg c7, if_pos (by omega)]) (by decide)
    simp (maxDischargeDepth := 16) only [argE_nil, argE_cons, ↓vmD, vmV, vmStd, Nat.reduceMul, ↓reduceIte, Nat.reduceAdd, Nat.reduceSub, Nat.reduceEqDiff, Nat.reduceLT, Nat.reduceLeDiff, reduceCtorEq, Int.reduceToNat, Int.reduceLT, Int.reduceLE, Int.reduceEq, Int.reduceNeg, Int.reduceBEq, Int.reduceBNe, String.reduceEq, forall_const, ↓vmDA, vmVA, ↓vmQA, vmR, vmRA, ↓vmSA, vmSV, tyS, nuE, SubA.skip, SubA.refl, fr.2, slIndexByte_v, indexByte_v, indexRune_v, containsRune_v, classOf_v, isWordByte_v, letter_v, digit_v, wordAt_v, rword_v, isName_v, risName_v, recId_v, rId13_v, moneyCur_v, rCur01_v, inTotal_v, rwithin1_v, exCard_v, recCheck_v, rrecCheck_v, dNext_v, rNext_v, holder_v, rholder_v, foll_v, rfoll_v, rDec_v, h1, h2, h3, h4, hf, rcd, q5, q6, q7, q8, h9, h10, h11, h12, h13, h14, hv]
  have c8 : ¬ (d < r.da ∨ 99999 < d) := by omega
  obtain ⟨m, rfl⟩ := Int.eq_ofNat_of_zero_le (show 0 ≤ n by omega)
  have hE : movE c r s t d (m : Int) = rcE (movR c r t d m) := by unfold movE; rw [if_neg c1, if_neg c2, if_neg c3, if_neg c4, if_neg c5, if_neg c6, if_neg c7, if_neg c8]; simp
  have hh : holdF t = 1 ∨ holdF t = 2 := by unfold holdF; split <;> (try split) <;> omega
  obtain ⟨x, hx⟩ : ∃ x, x = movR c r t d m := ⟨_, rfl⟩
  rw [← hx] at hE
  have mv := fun B hB => movem_w A hT c r t d m (by omega) hh ⟨y1, y2⟩ x hx B hB
  have xi : x.id.size ≤ 200000000000000 := by rw [hx]; have := movI_size (c := c) (n := m) (by omega); show (movI c m).size ≤ _; omega
  have rcx := fun A => recCheck_v x.kd x.id x.au x.aq x.is x.me x.ca x.am x.cu x.da x.ct x.fi xi (by rw [hx]; simp [movR, ByteArray.size]) (by rw [hx]; show r.aq.size ≤ _; omega) (by rw [hx]; show r.is.size ≤ _; omega) (by rw [hx]; show r.me.size ≤ _; omega) (by rw [hx]; show r.ca.size ≤ _; omega) (by rw [hx]; show c.cu.size ≤ _; omega) A
  rw [show chkRG x.kd x.id x.au x.aq x.is x.me x.ca x.am x.cu x.da x.ct = rcE x from rfl] at rcx
  by_cases h15 : rcE x = 0
  rotate_left
  · have hv := movV_err (c := c) (r := r) (s := s) (t := t) (d := d) (n := (m : Int)) (k := rcE x) hE h15
    have q : (rcE x != 0) = true := by simpa using h15
    simp (maxDischargeDepth := 16) only [argE_nil, argE_cons, ↓vmD, vmV, vmStd, Nat.reduceMul, ↓reduceIte, Nat.reduceAdd, Nat.reduceSub, Nat.reduceEqDiff, Nat.reduceLT, Nat.reduceLeDiff, reduceCtorEq, Int.reduceToNat, Int.reduceLT, Int.reduceLE, Int.reduceEq, Int.reduceNeg, Int.reduceBEq, Int.reduceBNe, String.reduceEq, forall_const, ↓vmDA, vmVA, ↓vmQA, vmR, vmRA, ↓vmSA, vmSV, tyS, nuE, SubA.skip, SubA.refl, fr.2, slIndexByte_v, indexByte_v, indexRune_v, containsRune_v, classOf_v, isWordByte_v, letter_v, digit_v, wordAt_v, rword_v, isName_v, risName_v, recId_v, rId13_v, moneyCur_v, rCur01_v, inTotal_v, rwithin1_v, exCard_v, recCheck_v, rrecCheck_v, dNext_v, rNext_v, holder_v, rholder_v, foll_v, rfoll_v, rDec_v, h1, h2, h3, h4, hf, rcd, q5, q6, q7, q8, h9, h10, h11, h12, h13, h14, mv, rcx, q, hv]
  have q15 : (rcE x != 0) = false := by simpa using h15
  by_cases h16 : holdF s = holdF t
  · have hv := movV_no (c := c) (r := r) (s := s) (t := t) (d := d) (n := (m : Int)) (by rw [hE, h15]) h16
    have q : (holdF s == holdF t) = true := by rw [h16]; exact BEq.rfl
    simp (maxDischargeDepth := 16) only [argE_nil, argE_cons, ↓vmD, vmV, vmStd, Nat.reduceMul, ↓reduceIte, Nat.reduceAdd, Nat.reduceSub, Nat.reduceEqDiff, Nat.reduceLT, Nat.reduceLeDiff, reduceCtorEq, Int.reduceToNat, Int.reduceLT, Int.reduceLE, Int.reduceEq, Int.reduceNeg, Int.reduceBEq, Int.reduceBNe, String.reduceEq, forall_const, ↓vmDA, vmVA, ↓vmQA, vmR, vmRA, ↓vmSA, vmSV, tyS, nuE, SubA.skip, SubA.refl, fr.2, slIndexByte_v, indexByte_v, indexRune_v, containsRune_v, classOf_v, isWordByte_v, letter_v, digit_v, wordAt_v, rword_v, isName_v, risName_v, recId_v, rId13_v, moneyCur_v, rCur01_v, inTotal_v, rwithin1_v, exCard_v, recCheck_v, rrecCheck_v, dNext_v, rNext_v, holder_v, rholder_v, foll_v, rfoll_v, rDec_v, h1, h2, h3, h4, hf, rcd, q5, q6, q7, q8, h9, h10, h11, h12, h13, h14, mv, rcx, q15, q, hv]
  · have hv := movV_yes (c := c) (r := r) (s := s) (t := t) (d := d) (n := (m : Int)) (by rw [hE, h15]) h16
    rw [Int.toNat_natCast, ← hx, Rc.agg] at hv
    have q : (holdF s == holdF t) = false := by simpa using h16
    simp (maxDischargeDepth := 16) only [argE_nil, argE_cons, ↓vmD, vmV, vmStd, Nat.reduceMul, ↓reduceIte, Nat.reduceAdd, Nat.reduceSub, Nat.reduceEqDiff, Nat.reduceLT, Nat.reduceLeDiff, reduceCtorEq, Int.reduceToNat, Int.reduceLT, Int.reduceLE, Int.reduceEq, Int.reduceNeg, Int.reduceBEq, Int.reduceBNe, String.reduceEq, forall_const, ↓vmDA, vmVA, ↓vmQA, vmR, vmRA, ↓vmSA, vmSV, tyS, nuE, SubA.skip, SubA.refl, fr.2, slIndexByte_v, indexByte_v, indexRune_v, containsRune_v, classOf_v, isWordByte_v, letter_v, digit_v, wordAt_v, rword_v, isName_v, risName_v, recId_v, rId13_v, moneyCur_v, rCur01_v, inTotal_v, rwithin1_v, exCard_v, recCheck_v, rrecCheck_v, dNext_v, rNext_v, holder_v, rholder_v, foll_v, rfoll_v, rDec_v, h1, h2, h3, h4, hf, rcd, q5, q6, q7, q8, h9, h10, h11, h12, h13, h14, mv, rcx, q15, q, hv]
theorem panMove_w (A : AH) (hT : TabA A) (c : Cs) (r : Rc) (s t d n : Int) (hc : SzC c) (hr : SzR r) (B_ : AH) (hB_ : SubA A B_) : valA Tryd.prog 12 #[.agg #[.string c.id, .string c.rc, .string c.rs, .string c.is, .string c.aq, .int .i64 c.am, .string c.cu, .int .i64 c.st, .int .i64 c.op, .int .i64 c.du], .agg #[.int .i64 r.kd, .string r.id, .string r.au, .string r.aq, .string r.is, .string r.me, .string r.ca, .int .i64 r.am, .string r.cu, .int .i64 r.da, .int .i64 r.ct, .bool r.fi], .int .i64 s, .int .i64 t, .int .i64 d, .int .i64 n] B_ = some (movV c r s t d n) := valA_eq (pureA_at (by kernel_rfl) (panMove_h A hT c r s t d n hc hr) hB_)
theorem panMove_v (A : AH) (hT : TabA A) (c : Cs) (r : Rc) (s t d n : Int) (hc : SzC c) (hr : SzR r) : valA Tryd.prog 12 #[.agg #[.string c.id, .string c.rc, .string c.rs, .string c.is, .string c.aq, .int .i64 c.am, .string c.cu, .int .i64 c.st, .int .i64 c.op, .int .i64 c.du], .agg #[.int .i64 r.kd, .string r.id, .string r.au, .string r.aq, .string r.is, .string r.me, .string r.ca, .int .i64 r.am, .string r.cu, .int .i64 r.da, .int .i64 r.ct, .bool r.fi], .int .i64 s, .int .i64 t, .int .i64 d, .int .i64 n] A = some (movV c r s t d n) := valA_eq (pureA_at (by kernel_rfl) (panMove_h A hT c r s t d n hc hr) (SubA.refl _))
end Go.Proofs.YtejcnpllodgmlaaDoor
