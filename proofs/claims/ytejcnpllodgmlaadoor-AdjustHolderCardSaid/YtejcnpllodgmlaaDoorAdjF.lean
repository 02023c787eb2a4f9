/-
Adjustments: the walks of the party that has prevailed, and of comparing lists.
Conditions: none.
-/
import Derived.Test.YtejcnpllodgmlaaDoorAdjN
namespace Go.Proofs.YtejcnpllodgmlaaDoor
open Go.Vm
set_option linter.unusedSimpArgs false
set_option linter.unusedVariables false
set_option maxHeartbeats 4000000
set_option maxRecDepth 20000
theorem i_bne0 (n m : Int) : (n != m) = !decide (n = m) := by rw [bne, i_beq0]
theorem ba_beq (a b : ByteArray) : (a.toList == b.toList) = decide (a = b) := by
  by_cases h : a = b
  · subst h; simp
  · rw [ba_beq_ne h]; simp [h]
theorem panFinal_h (A : AH) (c : Cs) (L : List Rc) (p : Option Addr) (cap : Nat) (hL : StR Rc.cells 12 A p L) (hl : L.length ≤ 3000) : CallA Tryd.prog 11 #[.agg #[.string c.id, .string c.rc, .string c.rs, .string c.is, .string c.aq, .int .i64 c.am, .string c.cu, .int .i64 c.st, .int .i64 c.op, .int .i64 c.du], .slice p L.length cap] A (fun u_ A_ => u_ = .bool (finF c L 2) ∧ SubA A A_) := by
  refine callA_of_denA ⟨Tryd.prog, 11, Tryd.f11, 36, [0, 1, 2, 4, 5, 7, 8, 9, 10, 11, 12], [], [], _⟩ (args := [_, _]) Tryd.func11 rfl (by kernel_rfl) Tryd.ntmps11 (by simp) (by kernel_rfl) ?_
  intro ν fr; have nuE := fr.nu
  simp (maxDischargeDepth := 16) only [argE_nil, argE_cons, ↓vmD, vmV, vmStd, Nat.reduceMul, ↓reduceIte, Nat.reduceAdd, Nat.reduceSub, Nat.reduceEqDiff, Nat.reduceLT, Nat.reduceLeDiff, reduceCtorEq, Int.reduceToNat, Int.reduceLT, Int.reduceLE, Int.reduceEq, Int.reduceNeg, Int.reduceBEq, Int.reduceBNe, String.reduceEq, forall_const, ↓vmDA, vmVA, ↓vmQA, vmR, vmRA, ↓vmSA, vmSV, tyS, nuE, SubA.skip, SubA.refl, fr.2, slIndexByte_v, indexByte_v, indexRune_v, containsRune_v, classOf_v, isWordByte_v, letter_v, digit_v, wordAt_v, rword_v, isName_v, risName_v, recId_v, rId13_v, moneyCur_v, rCur01_v, inTotal_v, rwithin1_v, exCard_v, recCheck_v, rrecCheck_v, dNext_v, rNext_v, holder_v, rholder_v, foll_v, rfoll_v, rDec_v, rMove_v]
  have hA0 := fr.2 0
  have dst_ : True := (by simp [nuE]); generalize ν 0 = n0 at dst_  hA0 ⊢
  obtain ⟨e, l, hd, he, hh, h3, hn, hb⟩ : ∃ (e : Nat) (l : List Rc) (hd : Int), e = 0 ∧ hd = 2 ∧ l = L.drop e ∧ finF c L 2 = finF c l hd ∧ (hd = 1 ∨ hd = 2) := ⟨0, L, 2, rfl, rfl, by simp, rfl, by simp⟩
  rw [show (12, some (Value.int .i64 0)) = (12, some (Value.int .i64 (e : Int))) by rw [he]; rfl]
  rw [show (5, some (Value.int .i64 2)) = (5, some (Value.int .i64 hd)) by rw [hh]]
  clear he hh nuE fr
  have sA : SubA A ((n0, (Obj.cells #[.string c.id, .string c.rc, .string c.rs, .string c.is, .string c.aq, .int .i64 c.am, .string c.cu, .int .i64 c.st, .int .i64 c.op, .int .i64 c.du] 25)) :: A) := SubA.skip hA0 (SubA.refl _)
  induction l generalizing e hd with
  | nil =>
    have hle := drop_nil h3
    have hlt : ((e : Int) < (L.length : Int)) = False := by simp; omega
    have hv : finF c L 2 = decide (hd = holdF c.st) := by rw [hn]; simp [finF]
    refine LoopA.intro (by kernel_rfl) ?_
    intro ν fr; have nuE := And.intro (fr.mem (b := n0) (by simp)) (And.intro dst_ fr.nu)
    simp (maxDischargeDepth := 16) only [argE_nil, argE_cons, ↓vmD, vmV, vmStd, Nat.reduceMul, ↓reduceIte, Nat.reduceAdd, Nat.reduceSub, Nat.reduceEqDiff, Nat.reduceLT, Nat.reduceLeDiff, reduceCtorEq, Int.reduceToNat, Int.reduceLT, Int.reduceLE, Int.reduceEq, Int.reduceNeg, Int.reduceBEq, Int.reduceBNe, String.reduceEq, forall_const, ↓vmDA, vmVA, ↓vmQA, vmR, vmRA, ↓vmSA, vmSV, tyS, nuE, SubA.skip, SubA.refl, fr.2, slIndexByte_v, indexByte_v, indexRune_v, containsRune_v, classOf_v, isWordByte_v, letter_v, digit_v, wordAt_v, rword_v, isName_v, risName_v, recId_v, rId13_v, moneyCur_v, rCur01_v, inTotal_v, rwithin1_v, exCard_v, recCheck_v, rrecCheck_v, dNext_v, rNext_v, holder_v, rholder_v, foll_v, rfoll_v, rDec_v, rMove_v, hlt, hv, i_beq0, sA]
  | cons x l ih =>
    obtain ⟨ha, hl2, h3'⟩ := drop_some h3
    have hlt : ((e : Int) < (L.length : Int)) = True := by simp; omega
    have we : IntKind.i64.wrap ((e : Int) + 1) = ((e + 1 : Nat) : Int) := by rw [w_i64 (by omega) (by omega)]; omega
    obtain ⟨bk, off, cs, ty, fr0, hp0, lb, hcr, hcc⟩ := hL.at ha
    subst hp0
    have lb := sA _ _ lb
    have k0 : cs[off + e * 12]? = some (.int .i64 x.kd) := hcc 0 _ rfl
    have k7 : cs[off + e * 12 + 7]? = some (.int .i64 x.am) := hcc 7 _ rfl
    have kr : rdCS (some (.cells cs ty fr0)) (off + e * 12 + 7) 2 = some #[.int .i64 x.am, .string x.cu] := by
      have := rdCS_sub (k := 7) (n := 2) hcr (by omega)
      simpa [Rc.cells] using this
    refine LoopA.intro (by kernel_rfl) ?_
    intro ν fr; have nuE := And.intro (fr.mem (b := n0) (by simp)) (And.intro dst_ fr.nu)
    have nb0 := look_ne (fr.2 0) lb
    have fin0 : SubA A ((ν 0, (Obj.cells #[.int .i64 x.kd, .string x.id, .string x.au, .string x.aq, .string x.is, .string x.me, .string x.ca, .int .i64 x.am, .string x.cu, .int .i64 x.da, .int .i64 x.ct, .bool x.fi] 27)) :: (n0, (Obj.cells #[.string c.id, .string c.rc, .string c.rs, .string c.is, .string c.aq, .int .i64 c.am, .string c.cu, .int .i64 c.st, .int .i64 c.op, .int .i64 c.du] 25)) :: A) := SubA.skip (sA.none (fr.2 0)) sA
    by_cases a1 : x.am = c.am
    rotate_left
    · have d1 : decide (x.am = c.am) = false := by simpa using a1
      have hv : finF c L 2 = false := by rw [hn]; simp [finF, a1]
      rcases hb with rfl | rfl <;> simp (maxDischargeDepth := 16) only [argE_nil, argE_cons, ↓vmD, vmV, vmStd, Nat.reduceMul, ↓reduceIte, Nat.reduceAdd, Nat.reduceSub, Nat.reduceEqDiff, Nat.reduceLT, Nat.reduceLeDiff, reduceCtorEq, Int.reduceToNat, Int.reduceLT, Int.reduceLE, Int.reduceEq, Int.reduceNeg, Int.reduceBEq, Int.reduceBNe, String.reduceEq, forall_const, ↓vmDA, vmVA, ↓vmQA, vmR, vmRA, ↓vmSA, vmSV, tyS, nuE, SubA.skip, SubA.refl, fr.2, slIndexByte_v, indexByte_v, indexRune_v, containsRune_v, classOf_v, isWordByte_v, letter_v, digit_v, wordAt_v, rword_v, isName_v, risName_v, recId_v, rId13_v, moneyCur_v, rCur01_v, inTotal_v, rwithin1_v, exCard_v, recCheck_v, rrecCheck_v, dNext_v, rNext_v, holder_v, rholder_v, foll_v, rfoll_v, rDec_v, rMove_v, hlt, lb, nb0, hcr, Rc.agg, k0, k7, kr, i_beq0, i_bne0, ba_beq, sA, fin0, d1, hv, Bool.false_and] <;> ((repeat' split) <;> first | exact trivial | exact fin0 | exact sA)
    have d1 : decide (x.am = c.am) = true := by simpa using a1
    by_cases a2 : x.cu = c.cu
    rotate_left
    · have d2 : decide (x.cu = c.cu) = false := by simpa using a2
      have hv : finF c L 2 = false := by rw [hn]; simp [finF, a2]
      rcases hb with rfl | rfl <;> simp (maxDischargeDepth := 16) only [argE_nil, argE_cons, ↓vmD, vmV, vmStd, Nat.reduceMul, ↓reduceIte, Nat.reduceAdd, Nat.reduceSub, Nat.reduceEqDiff, Nat.reduceLT, Nat.reduceLeDiff, reduceCtorEq, Int.reduceToNat, Int.reduceLT, Int.reduceLE, Int.reduceEq, Int.reduceNeg, Int.reduceBEq, Int.reduceBNe, String.reduceEq, forall_const, ↓vmDA, vmVA, ↓vmQA, vmR, vmRA, ↓vmSA, vmSV, tyS, nuE, SubA.skip, SubA.refl, fr.2, slIndexByte_v, indexByte_v, indexRune_v, containsRune_v, classOf_v, isWordByte_v, letter_v, digit_v, wordAt_v, rword_v, isName_v, risName_v, recId_v, rId13_v, moneyCur_v, rCur01_v, inTotal_v, rwithin1_v, exCard_v, recCheck_v, rrecCheck_v, dNext_v, rNext_v, holder_v, rholder_v, foll_v, rfoll_v, rDec_v, rMove_v, hlt, lb, nb0, hcr, Rc.agg, k0, k7, kr, i_beq0, i_bne0, ba_beq, sA, fin0, d1, d2, hv, Bool.and_false] <;> ((repeat' split) <;> first | exact trivial | exact fin0 | exact sA)
    have d2 : decide (x.cu = c.cu) = true := by simpa using a2
    rcases hb with rfl | rfl
    · by_cases q4 : x.kd = 4
      · have b4 : decide (x.kd = 4) = true := by simpa using q4
        have b3 : decide (x.kd = 3) = false := by simp; omega
        have hv : finF c L 2 = finF c l 2 := by rw [hn]; simp [finF, a1, a2, q4]
        simp (maxDischargeDepth := 16) only [argE_nil, argE_cons, ↓vmD, vmV, vmStd, Nat.reduceMul, ↓reduceIte, Nat.reduceAdd, Nat.reduceSub, Nat.reduceEqDiff, Nat.reduceLT, Nat.reduceLeDiff, reduceCtorEq, Int.reduceToNat, Int.reduceLT, Int.reduceLE, Int.reduceEq, Int.reduceNeg, Int.reduceBEq, Int.reduceBNe, String.reduceEq, forall_const, ↓vmDA, vmVA, ↓vmQA, vmR, vmRA, ↓vmSA, vmSV, tyS, nuE, SubA.skip, SubA.refl, fr.2, slIndexByte_v, indexByte_v, indexRune_v, containsRune_v, classOf_v, isWordByte_v, letter_v, digit_v, wordAt_v, rword_v, isName_v, risName_v, recId_v, rId13_v, moneyCur_v, rCur01_v, inTotal_v, rwithin1_v, exCard_v, recCheck_v, rrecCheck_v, dNext_v, rNext_v, holder_v, rholder_v, foll_v, rfoll_v, rDec_v, rMove_v, hlt, lb, nb0, hcr, Rc.agg, k0, k7, kr, i_beq0, i_bne0, ba_beq, sA, fin0, d1, d2, b3, b4, Bool.and_self, we]
        exact LoopA.weak (ih (e + 1) 2 h3' hv (by simp)) (by simp only [subE, get_cons, Nat.reduceEqDiff, ↓reduceIte, reduceCtorEq, Nat.reduceAdd, and_self, and_true]) (SubA.skip (fr.2 0) (SubA.refl _))
      · have b4 : decide (x.kd = 4) = false := by simpa using q4
        have hv : finF c L 2 = false := by rw [hn]; simp [finF, a1, a2, q4]
        simp (maxDischargeDepth := 16) only [argE_nil, argE_cons, ↓vmD, vmV, vmStd, Nat.reduceMul, ↓reduceIte, Nat.reduceAdd, Nat.reduceSub, Nat.reduceEqDiff, Nat.reduceLT, Nat.reduceLeDiff, reduceCtorEq, Int.reduceToNat, Int.reduceLT, Int.reduceLE, Int.reduceEq, Int.reduceNeg, Int.reduceBEq, Int.reduceBNe, String.reduceEq, forall_const, ↓vmDA, vmVA, ↓vmQA, vmR, vmRA, ↓vmSA, vmSV, tyS, nuE, SubA.skip, SubA.refl, fr.2, slIndexByte_v, indexByte_v, indexRune_v, containsRune_v, classOf_v, isWordByte_v, letter_v, digit_v, wordAt_v, rword_v, isName_v, risName_v, recId_v, rId13_v, moneyCur_v, rCur01_v, inTotal_v, rwithin1_v, exCard_v, recCheck_v, rrecCheck_v, dNext_v, rNext_v, holder_v, rholder_v, foll_v, rfoll_v, rDec_v, rMove_v, hlt, lb, nb0, hcr, Rc.agg, k0, k7, kr, i_beq0, i_bne0, ba_beq, sA, fin0, d1, d2, b4, hv, Bool.and_self] <;> ((repeat' split) <;> first | exact trivial | exact fin0 | exact sA)
    · by_cases q3 : x.kd = 3
      · have b3 : decide (x.kd = 3) = true := by simpa using q3
        have hv : finF c L 2 = finF c l 1 := by rw [hn]; simp [finF, a1, a2, q3]
        simp (maxDischargeDepth := 16) only [argE_nil, argE_cons, ↓vmD, vmV, vmStd, Nat.reduceMul, ↓reduceIte, Nat.reduceAdd, Nat.reduceSub, Nat.reduceEqDiff, Nat.reduceLT, Nat.reduceLeDiff, reduceCtorEq, Int.reduceToNat, Int.reduceLT, Int.reduceLE, Int.reduceEq, Int.reduceNeg, Int.reduceBEq, Int.reduceBNe, String.reduceEq, forall_const, ↓vmDA, vmVA, ↓vmQA, vmR, vmRA, ↓vmSA, vmSV, tyS, nuE, SubA.skip, SubA.refl, fr.2, slIndexByte_v, indexByte_v, indexRune_v, containsRune_v, classOf_v, isWordByte_v, letter_v, digit_v, wordAt_v, rword_v, isName_v, risName_v, recId_v, rId13_v, moneyCur_v, rCur01_v, inTotal_v, rwithin1_v, exCard_v, recCheck_v, rrecCheck_v, dNext_v, rNext_v, holder_v, rholder_v, foll_v, rfoll_v, rDec_v, rMove_v, hlt, lb, nb0, hcr, Rc.agg, k0, k7, kr, i_beq0, i_bne0, ba_beq, sA, fin0, d1, d2, b3, Bool.and_self, we]
        exact LoopA.weak (ih (e + 1) 1 h3' hv (by simp)) (by simp only [subE, get_cons, Nat.reduceEqDiff, ↓reduceIte, reduceCtorEq, Nat.reduceAdd, and_self, and_true]) (SubA.skip (fr.2 0) (SubA.refl _))
      · have b3 : decide (x.kd = 3) = false := by simpa using q3
        have hv : finF c L 2 = false := by rw [hn]; simp [finF, a1, a2, q3]
        simp (maxDischargeDepth := 16) only [argE_nil, argE_cons, ↓vmD, vmV, vmStd, Nat.reduceMul, ↓reduceIte, Nat.reduceAdd, Nat.reduceSub, Nat.reduceEqDiff, Nat.reduceLT, Nat.reduceLeDiff, reduceCtorEq, Int.reduceToNat, Int.reduceLT, Int.reduceLE, Int.reduceEq, Int.reduceNeg, Int.reduceBEq, Int.reduceBNe, String.reduceEq, forall_const, ↓vmDA, vmVA, ↓vmQA, vmR, vmRA, ↓vmSA, vmSV, tyS, nuE, SubA.skip, SubA.refl, fr.2, slIndexByte_v, indexByte_v, indexRune_v, containsRune_v, classOf_v, isWordByte_v, letter_v, digit_v, wordAt_v, rword_v, isName_v, risName_v, recId_v, rId13_v, moneyCur_v, rCur01_v, inTotal_v, rwithin1_v, exCard_v, recCheck_v, rrecCheck_v, dNext_v, rNext_v, holder_v, rholder_v, foll_v, rfoll_v, rDec_v, rMove_v, hlt, lb, nb0, hcr, Rc.agg, k0, k7, kr, i_beq0, i_bne0, ba_beq, sA, fin0, d1, d2, b3, hv, Bool.and_self] <;> ((repeat' split) <;> first | exact trivial | exact fin0 | exact sA)
theorem panFinal_w (A : AH) (c : Cs) (L : List Rc) (p : Option Addr) (cap : Nat) (hL : StR Rc.cells 12 A p L) (hl : L.length ≤ 3000) (B_ : AH) (hB_ : SubA A B_) : valA Tryd.prog 11 #[.agg #[.string c.id, .string c.rc, .string c.rs, .string c.is, .string c.aq, .int .i64 c.am, .string c.cu, .int .i64 c.st, .int .i64 c.op, .int .i64 c.du], .slice p L.length cap] B_ = some (.bool (finF c L 2)) := valA_eq (pureA_at (by kernel_rfl) (panFinal_h A c L p cap hL hl) hB_)
theorem panFinal_v (A : AH) (c : Cs) (L : List Rc) (p : Option Addr) (cap : Nat) (hL : StR Rc.cells 12 A p L) (hl : L.length ≤ 3000) : valA Tryd.prog 11 #[.agg #[.string c.id, .string c.rc, .string c.rs, .string c.is, .string c.aq, .int .i64 c.am, .string c.cu, .int .i64 c.st, .int .i64 c.op, .int .i64 c.du], .slice p L.length cap] A = some (.bool (finF c L 2)) := valA_eq (pureA_at (by kernel_rfl) (panFinal_h A c L p cap hL hl) (SubA.refl _))
theorem rFinal_h (A : AH) (c : Cs) (L : List Rc) (p : Option Addr) (cap : Nat) (hL : StR Rc.cells 12 A p L) (hl : L.length ≤ 3000) : CallA Tryd.prog 18 #[.agg #[.string c.id, .string c.rc, .string c.rs, .string c.is, .string c.aq, .int .i64 c.am, .string c.cu, .int .i64 c.st, .int .i64 c.op, .int .i64 c.du], .slice p L.length cap] A (fun u_ A_ => u_ = .bool (finF c L 2) ∧ SubA A A_) := by
  refine callA_of_denA ⟨Tryd.prog, 18, Tryd.f18, 46, [0, 1, 2, 4, 5, 6], [], [(5, .q false)], _⟩ (args := [_, _]) Tryd.func18 rfl (by kernel_rfl) Tryd.ntmps18 (by simp) (by kernel_rfl) ?_
  intro ν fr; have nuE := fr.nu
  simp (maxDischargeDepth := 16) only [argE_nil, argE_cons, ↓vmD, vmV, vmStd, Nat.reduceMul, ↓reduceIte, Nat.reduceAdd, Nat.reduceSub, Nat.reduceEqDiff, Nat.reduceLT, Nat.reduceLeDiff, reduceCtorEq, Int.reduceToNat, Int.reduceLT, Int.reduceLE, Int.reduceEq, Int.reduceNeg, Int.reduceBEq, Int.reduceBNe, String.reduceEq, forall_const, ↓vmDA, vmVA, ↓vmQA, vmR, vmRA, ↓vmSA, vmSV, tyS, nuE, SubA.skip, SubA.refl, fr.2, slIndexByte_v, indexByte_v, indexRune_v, containsRune_v, classOf_v, isWordByte_v, letter_v, digit_v, wordAt_v, rword_v, isName_v, risName_v, recId_v, rId13_v, moneyCur_v, rCur01_v, inTotal_v, rwithin1_v, exCard_v, recCheck_v, rrecCheck_v, dNext_v, rNext_v, holder_v, rholder_v, foll_v, rfoll_v, rDec_v, rMove_v]
  have hA0 := fr.2 0
  have dst_ : True := (by simp [nuE]); generalize ν 0 = n0 at dst_  hA0 ⊢
  obtain ⟨e, l, hd, he, hh, h3, hn, hb⟩ : ∃ (e : Nat) (l : List Rc) (hd : Int), e = 0 ∧ hd = 2 ∧ l = L.drop e ∧ finF c L 2 = finF c l hd ∧ (hd = 1 ∨ hd = 2) := ⟨0, L, 2, rfl, rfl, by simp, rfl, by simp⟩
  rw [show (6, some (Value.int .i64 0)) = (6, some (Value.int .i64 (e : Int))) by rw [he]; rfl]
  rw [show (5, some (Value.int .i64 2)) = (5, some (Value.int .i64 hd)) by rw [hh]]
  clear he hh nuE fr
  have sA : SubA A ((n0, (Obj.cells #[.string c.id, .string c.rc, .string c.rs, .string c.is, .string c.aq, .int .i64 c.am, .string c.cu, .int .i64 c.st, .int .i64 c.op, .int .i64 c.du] 25)) :: A) := SubA.skip hA0 (SubA.refl _)
  induction l generalizing e hd with
  | nil =>
    have hle := drop_nil h3
    have hlt : ((e : Int) < (L.length : Int)) = False := by simp; omega
    have hv : finF c L 2 = decide (hd = holdF c.st) := by rw [hn]; simp [finF]
    refine LoopA.intro (by kernel_rfl) ?_
    intro ν fr; have nuE := And.intro (fr.mem (b := n0) (by simp)) (And.intro dst_ fr.nu)
    simp (maxDischargeDepth := 16) only [argE_nil, argE_cons, ↓vmD, vmV, vmStd, Nat.reduceMul, ↓reduceIte, Nat.reduceAdd, Nat.reduceSub, Nat.reduceEqDiff, Nat.reduceLT, Nat.reduceLeDiff, reduceCtorEq, Int.reduceToNat, Int.reduceLT, Int.reduceLE, Int.reduceEq, Int.reduceNeg, Int.reduceBEq, Int.reduceBNe, String.reduceEq, forall_const, ↓vmDA, vmVA, ↓vmQA, vmR, vmRA, ↓vmSA, vmSV, tyS, nuE, SubA.skip, SubA.refl, fr.2, slIndexByte_v, indexByte_v, indexRune_v, containsRune_v, classOf_v, isWordByte_v, letter_v, digit_v, wordAt_v, rword_v, isName_v, risName_v, recId_v, rId13_v, moneyCur_v, rCur01_v, inTotal_v, rwithin1_v, exCard_v, recCheck_v, rrecCheck_v, dNext_v, rNext_v, holder_v, rholder_v, foll_v, rfoll_v, rDec_v, rMove_v, hlt, hv, i_beq0, sA]
  | cons x l ih =>
    obtain ⟨ha, hl2, h3'⟩ := drop_some h3
    have hlt : ((e : Int) < (L.length : Int)) = True := by simp; omega
    have we : IntKind.i64.wrap ((e : Int) + 1) = ((e + 1 : Nat) : Int) := by rw [w_i64 (by omega) (by omega)]; omega
    obtain ⟨bk, off, cs, ty, fr0, hp0, lb, hcr, hcc⟩ := hL.at ha
    subst hp0
    have lb := sA _ _ lb
    have k0 : cs[off + e * 12]? = some (.int .i64 x.kd) := hcc 0 _ rfl
    have k7 : cs[off + e * 12 + 7]? = some (.int .i64 x.am) := hcc 7 _ rfl
    have kr : rdCS (some (.cells cs ty fr0)) (off + e * 12 + 7) 2 = some #[.int .i64 x.am, .string x.cu] := by
      have := rdCS_sub (k := 7) (n := 2) hcr (by omega)
      simpa [Rc.cells] using this
    refine LoopA.intro (by kernel_rfl) ?_
    intro ν fr; have nuE := And.intro (fr.mem (b := n0) (by simp)) (And.intro dst_ fr.nu)
    have nb0 := look_ne (fr.2 0) lb
    have fin0 : SubA A ((ν 0, (Obj.cells #[.int .i64 x.kd, .string x.id, .string x.au, .string x.aq, .string x.is, .string x.me, .string x.ca, .int .i64 x.am, .string x.cu, .int .i64 x.da, .int .i64 x.ct, .bool x.fi] 27)) :: (n0, (Obj.cells #[.string c.id, .string c.rc, .string c.rs, .string c.is, .string c.aq, .int .i64 c.am, .string c.cu, .int .i64 c.st, .int .i64 c.op, .int .i64 c.du] 25)) :: A) := SubA.skip (sA.none (fr.2 0)) sA
    by_cases a1 : x.am = c.am
    rotate_left
    · have d1 : decide (x.am = c.am) = false := by simpa using a1
      have hv : finF c L 2 = false := by rw [hn]; simp [finF, a1]
      rcases hb with rfl | rfl <;> simp (maxDischargeDepth := 16) only [argE_nil, argE_cons, ↓vmD, vmV, vmStd, Nat.reduceMul, ↓reduceIte, Nat.reduceAdd, Nat.reduceSub, Nat.reduceEqDiff, Nat.reduceLT, Nat.reduceLeDiff, reduceCtorEq, Int.reduceToNat, Int.reduceLT, Int.reduceLE, Int.reduceEq, Int.reduceNeg, Int.reduceBEq, Int.reduceBNe, String.reduceEq, forall_const, ↓vmDA, vmVA, ↓vmQA, vmR, vmRA, ↓vmSA, vmSV, tyS, nuE, SubA.skip, SubA.refl, fr.2, slIndexByte_v, indexByte_v, indexRune_v, containsRune_v, classOf_v, isWordByte_v, letter_v, digit_v, wordAt_v, rword_v, isName_v, risName_v, recId_v, rId13_v, moneyCur_v, rCur01_v, inTotal_v, rwithin1_v, exCard_v, recCheck_v, rrecCheck_v, dNext_v, rNext_v, holder_v, rholder_v, foll_v, rfoll_v, rDec_v, rMove_v, hlt, lb, nb0, hcr, Rc.agg, k0, k7, kr, i_beq0, i_bne0, ba_beq, sA, fin0, d1, hv, Bool.false_and] <;> ((repeat' split) <;> first | exact trivial | exact fin0 | exact sA)
    have d1 : decide (x.am = c.am) = true := by simpa using a1
    by_cases a2 : x.cu = c.cu
    rotate_left
    · have d2 : decide (x.cu = c.cu) = false := by simpa using a2
      have hv : finF c L 2 = false := by rw [hn]; simp [finF, a2]
      rcases hb with rfl | rfl <;> simp (maxDischargeDepth := 16) only [argE_nil, argE_cons, ↓vmD, vmV, vmStd, Nat.reduceMul, ↓reduceIte, Nat.reduceAdd, Nat.reduceSub, Nat.reduceEqDiff, Nat.reduceLT, Nat.reduceLeDiff, reduceCtorEq, Int.reduceToNat, Int.reduceLT, Int.reduceLE, Int.reduceEq, Int.reduceNeg, Int.reduceBEq, Int.reduceBNe, String.reduceEq, forall_const, ↓vmDA, vmVA, ↓vmQA, vmR, vmRA, ↓vmSA, vmSV, tyS, nuE, SubA.skip, SubA.refl, fr.2, slIndexByte_v, indexByte_v, indexRune_v, containsRune_v, classOf_v, isWordByte_v, letter_v, digit_v, wordAt_v, rword_v, isName_v, risName_v, recId_v, rId13_v, moneyCur_v, rCur01_v, inTotal_v, rwithin1_v, exCard_v, recCheck_v, rrecCheck_v, dNext_v, rNext_v, holder_v, rholder_v, foll_v, rfoll_v, rDec_v, rMove_v, hlt, lb, nb0, hcr, Rc.agg, k0, k7, kr, i_beq0, i_bne0, ba_beq, sA, fin0, d1, d2, hv, Bool.and_false] <;> ((repeat' split) <;> first | exact trivial | exact fin0 | exact sA)
    have d2 : decide (x.cu = c.cu) = true := by simpa using a2
    rcases hb with rfl | rfl
    · by_cases q4 : x.kd = 4
      · have b4 : decide (x.kd = 4) = true := by simpa using q4
        have b3 : decide (x.kd = 3) = false := by simp; omega
        have hv : finF c L 2 = finF c l 2 := by rw [hn]; simp [finF, a1, a2, q4]
        simp (maxDischargeDepth := 16) only [argE_nil, argE_cons, ↓vmD, vmV, vmStd, Nat.reduceMul, ↓reduceIte, Nat.reduceAdd, Nat.reduceSub, Nat.reduceEqDiff, Nat.reduceLT, Nat.reduceLeDiff, reduceCtorEq, Int.reduceToNat, Int.reduceLT, Int.reduceLE, Int.reduceEq, Int.reduceNeg, Int.reduceBEq, Int.reduceBNe, String.reduceEq, forall_const, ↓vmDA, vmVA, ↓vmQA, vmR, vmRA, ↓vmSA, vmSV, tyS, nuE, SubA.skip, SubA.refl, fr.2, slIndexByte_v, indexByte_v, indexRune_v, containsRune_v, classOf_v, isWordByte_v, letter_v, digit_v, wordAt_v, rword_v, isName_v, risName_v, recId_v, rId13_v, moneyCur_v, rCur01_v, inTotal_v, rwithin1_v, exCard_v, recCheck_v, rrecCheck_v, dNext_v, rNext_v, holder_v, rholder_v, foll_v, rfoll_v, rDec_v, rMove_v, hlt, lb, nb0, hcr, Rc.agg, k0, k7, kr, i_beq0, i_bne0, ba_beq, sA, fin0, d1, d2, b3, b4, Bool.and_self, we]
        exact LoopA.weak (ih (e + 1) 2 h3' hv (by simp)) (by simp only [subE, get_cons, Nat.reduceEqDiff, ↓reduceIte, reduceCtorEq, Nat.reduceAdd, and_self, and_true]) (SubA.refl _)
      · have b4 : decide (x.kd = 4) = false := by simpa using q4
        have hv : finF c L 2 = false := by rw [hn]; simp [finF, a1, a2, q4]
        simp (maxDischargeDepth := 16) only [argE_nil, argE_cons, ↓vmD, vmV, vmStd, Nat.reduceMul, ↓reduceIte, Nat.reduceAdd, Nat.reduceSub, Nat.reduceEqDiff, Nat.reduceLT, Nat.reduceLeDiff, reduceCtorEq, Int.reduceToNat, Int.reduceLT, Int.reduceLE, Int.reduceEq, Int.reduceNeg, Int.reduceBEq, Int.reduceBNe, String.reduceEq, forall_const, ↓vmDA, vmVA, ↓vmQA, vmR, vmRA, ↓vmSA, vmSV, tyS, nuE, SubA.skip, SubA.refl, fr.2, slIndexByte_v, indexByte_v, indexRune_v, containsRune_v, classOf_v, isWordByte_v, letter_v, digit_v, wordAt_v, rword_v, isName_v, risName_v, recId_v, rId13_v, moneyCur_v, rCur01_v, inTotal_v, rwithin1_v, exCard_v, recCheck_v, rrecCheck_v, dNext_v, rNext_v, holder_v, rholder_v, foll_v, rfoll_v, rDec_v, rMove_v, hlt, lb, nb0, hcr, Rc.agg, k0, k7, kr, i_beq0, i_bne0, ba_beq, sA, fin0, d1, d2, b4, hv, Bool.and_self] <;> ((repeat' split) <;> first | exact trivial | exact fin0 | exact sA)
    · by_cases q3 : x.kd = 3
      · have b3 : decide (x.kd = 3) = true := by simpa using q3
        have hv : finF c L 2 = finF c l 1 := by rw [hn]; simp [finF, a1, a2, q3]
        simp (maxDischargeDepth := 16) only [argE_nil, argE_cons, ↓vmD, vmV, vmStd, Nat.reduceMul, ↓reduceIte, Nat.reduceAdd, Nat.reduceSub, Nat.reduceEqDiff, Nat.reduceLT, Nat.reduceLeDiff, reduceCtorEq, Int.reduceToNat, Int.reduceLT, Int.reduceLE, Int.reduceEq, Int.reduceNeg, Int.reduceBEq, Int.reduceBNe, String.reduceEq, forall_const, ↓vmDA, vmVA, ↓vmQA, vmR, vmRA, ↓vmSA, vmSV, tyS, nuE, SubA.skip, SubA.refl, fr.2, slIndexByte_v, indexByte_v, indexRune_v, containsRune_v, classOf_v, isWordByte_v, letter_v, digit_v, wordAt_v, rword_v, isName_v, risName_v, recId_v, rId13_v, moneyCur_v, rCur01_v, inTotal_v, rwithin1_v, exCard_v, recCheck_v, rrecCheck_v, dNext_v, rNext_v, holder_v, rholder_v, foll_v, rfoll_v, rDec_v, rMove_v, hlt, lb, nb0, hcr, Rc.agg, k0, k7, kr, i_beq0, i_bne0, ba_beq, sA, fin0, d1, d2, b3, Bool.and_self, we]
        exact LoopA.weak (ih (e + 1) 1 h3' hv (by simp)) (by simp only [subE, get_cons, Nat.reduceEqDiff, ↓reduceIte, reduceCtorEq, Nat.reduceAdd, and_self, and_true]) (SubA.refl _)
      · have b3 : decide (x.kd = 3) = false := by simpa using q3
        have hv : finF c L 2 = false := by rw [hn]; simp [finF, a1, a2, q3]
        simp (maxDischargeDepth := 16) only [argE_nil, argE_cons, ↓vmD, vmV, vmStd, Nat.reduceMul, ↓reduceIte, Nat.reduceAdd, Nat.reduceSub, Nat.reduceEqDiff, Nat.reduceLT, Nat.reduceLeDiff, reduceCtorEq, Int.reduceToNat, Int.reduceLT, Int.reduceLE, Int.reduceEq, Int.reduceNeg, Int.reduceBEq, Int.reduceBNe, String.reduceEq, forall_const, ↓vmDA, vmVA, ↓vmQA, vmR, vmRA, ↓vmSA, vmSV, tyS, nuE, SubA.skip, SubA.refl, fr.2, slIndexByte_v, indexByte_v, indexRune_v, containsRune_v, classOf_v, isWordByte_v, letter_v, digit_v, wordAt_v, rword_v, isName_v, risName_v, recId_v, rId13_v, moneyCur_v, rCur01_v, inTotal_v, rwithin1_v, exCard_v, recCheck_v, rrecCheck_v, dNext_v, rNext_v, holder_v, rholder_v, foll_v, rfoll_v, rDec_v, rMove_v, hlt, lb, nb0, hcr, Rc.agg, k0, k7, kr, i_beq0, i_bne0, ba_beq, sA, fin0, d1, d2, b3, hv, Bool.and_self] <;> ((repeat' split) <;> first | exact trivial | exact fin0 | exact sA)
theorem rFinal_w (A : AH) (c : Cs) (L : List Rc) (p : Option Addr) (cap : Nat) (hL : StR Rc.cells 12 A p L) (hl : L.length ≤ 3000) (B_ : AH) (hB_ : SubA A B_) : valA Tryd.prog 18 #[.agg #[.string c.id, .string c.rc, .string c.rs, .string c.is, .string c.aq, .int .i64 c.am, .string c.cu, .int .i64 c.st, .int .i64 c.op, .int .i64 c.du], .slice p L.length cap] B_ = some (.bool (finF c L 2)) := valA_eq (pureA_at (by kernel_rfl) (rFinal_h A c L p cap hL hl) hB_)
theorem rFinal_v (A : AH) (c : Cs) (L : List Rc) (p : Option Addr) (cap : Nat) (hL : StR Rc.cells 12 A p L) (hl : L.length ≤ 3000) : valA Tryd.prog 18 #[.agg #[.string c.id, .string c.rc, .string c.rs, .string c.is, .string c.aq, .int .i64 c.am, .string c.cu, .int .i64 c.st, .int .i64 c.op, .int .i64 c.du], .slice p L.length cap] A = some (.bool (finF c L 2)) := valA_eq (pureA_at (by kernel_rfl) (rFinal_h A c L p cap hL hl) (SubA.refl _))
end Go.Proofs.YtejcnpllodgmlaaDoor
