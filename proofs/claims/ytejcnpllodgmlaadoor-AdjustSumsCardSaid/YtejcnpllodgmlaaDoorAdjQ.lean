/-
Adjustments: the laws of movements, lists and sums.
Conditions: none.
-/
import Derived.Test.YtejcnpllodgmlaaDoorAdjA
import Derived.Test.YtejcnpllodgmlaaDoorVmAF
namespace Go.Proofs.YtejcnpllodgmlaaDoor
open Go.Vm
set_option linter.unusedSimpArgs false
set_option linter.unusedVariables false
set_option maxHeartbeats 4000000
set_option maxRecDepth 20000
theorem sameR_h (A : AH) (L : List Rc) (p q : Option Addr) (cap cap2 : Nat) (hL : StR Rc.cells 12 A p L) (hM : StR Rc.cells 12 A q L) (hl : L.length ≤ 3000) : CallA Tryd.prog 16 #[.slice p L.length cap, .slice q L.length cap2] A (fun u_ A_ => u_ = .bool true ∧ SubA A A_) := by
  refine callA_of_denA ⟨Tryd.prog, 16, Tryd.f16, 26, [0, 1, 4, 5], [], [(6, .q false)], _⟩ (args := [_, _]) Tryd.func16 rfl (by kernel_rfl) Tryd.ntmps16 (by simp) (by kernel_rfl) ?_
  intro ν fr; have nuE := fr.nu
  simp (maxDischargeDepth := 16) only [argE_nil, argE_cons, ↓vmD, vmV, vmStd, Nat.reduceMul, ↓reduceIte, Nat.reduceAdd, Nat.reduceSub, Nat.reduceEqDiff, Nat.reduceLT, Nat.reduceLeDiff, reduceCtorEq, Int.reduceToNat, Int.reduceLT, Int.reduceLE, Int.reduceEq, Int.reduceNeg, Int.reduceBEq, Int.reduceBNe, String.reduceEq, forall_const, ↓vmDA, vmVA, ↓vmQA, vmR, vmRA, ↓vmSA, vmSV, tyS, nuE, SubA.skip, SubA.refl, fr.2, slIndexByte_v, indexByte_v, indexRune_v, containsRune_v, classOf_v, isWordByte_v, letter_v, digit_v, wordAt_v, rword_v, isName_v, risName_v, recId_v, rId13_v, moneyCur_v, rCur01_v, inTotal_v, rwithin1_v, exCard_v, recCheck_v, rrecCheck_v, dNext_v, rNext_v, holder_v, rholder_v, foll_v, rfoll_v, rDec_v, rMove_v, exmpl_v, bne_self_eq_false]
  obtain ⟨e, l, he, h3⟩ : ∃ (e : Nat) (l : List Rc), e = 0 ∧ l = L.drop e := ⟨0, L, rfl, by simp⟩
  rw [show (5, some (Value.int .i64 0)) = (5, some (Value.int .i64 (e : Int))) by rw [he]; rfl]
  clear he nuE fr
  induction l generalizing e with
  | nil =>
    have hle := drop_nil h3
    have hlt : ((e : Int) < (L.length : Int)) = False := by simp; omega
    refine LoopA.intro (by kernel_rfl) ?_
    intro ν fr; have nuE := fr.nu
    simp (maxDischargeDepth := 16) only [argE_nil, argE_cons, ↓vmD, vmV, vmStd, Nat.reduceMul, ↓reduceIte, Nat.reduceAdd, Nat.reduceSub, Nat.reduceEqDiff, Nat.reduceLT, Nat.reduceLeDiff, reduceCtorEq, Int.reduceToNat, Int.reduceLT, Int.reduceLE, Int.reduceEq, Int.reduceNeg, Int.reduceBEq, Int.reduceBNe, String.reduceEq, forall_const, ↓vmDA, vmVA, ↓vmQA, vmR, vmRA, ↓vmSA, vmSV, tyS, nuE, SubA.skip, SubA.refl, fr.2, slIndexByte_v, indexByte_v, indexRune_v, containsRune_v, classOf_v, isWordByte_v, letter_v, digit_v, wordAt_v, rword_v, isName_v, risName_v, recId_v, rId13_v, moneyCur_v, rCur01_v, inTotal_v, rwithin1_v, exCard_v, recCheck_v, rrecCheck_v, dNext_v, rNext_v, holder_v, rholder_v, foll_v, rfoll_v, rDec_v, rMove_v, exmpl_v, hlt]
  | cons x l ih =>
    obtain ⟨ha, hl2, h3'⟩ := drop_some h3
    have hlt : ((e : Int) < (L.length : Int)) = True := by simp; omega
    have we : IntKind.i64.wrap ((e : Int) + 1) = ((e + 1 : Nat) : Int) := by rw [w_i64 (by omega) (by omega)]; omega
    obtain ⟨bk, off, cs, ty, fr0, hp0, lb, hcr, hcc⟩ := hL.at ha
    obtain ⟨bk2, off2, cs2, ty2, fr2, hp2, lb2, hcr2, hcc2⟩ := hM.at ha
    subst hp0
    subst hp2
    refine LoopA.intro (by kernel_rfl) ?_
    intro ν fr; have nuE := fr.nu
    simp (maxDischargeDepth := 16) only [argE_nil, argE_cons, ↓vmD, vmV, vmStd, Nat.reduceMul, ↓reduceIte, Nat.reduceAdd, Nat.reduceSub, Nat.reduceEqDiff, Nat.reduceLT, Nat.reduceLeDiff, reduceCtorEq, Int.reduceToNat, Int.reduceLT, Int.reduceLE, Int.reduceEq, Int.reduceNeg, Int.reduceBEq, Int.reduceBNe, String.reduceEq, forall_const, ↓vmDA, vmVA, ↓vmQA, vmR, vmRA, ↓vmSA, vmSV, tyS, nuE, SubA.skip, SubA.refl, fr.2, slIndexByte_v, indexByte_v, indexRune_v, containsRune_v, classOf_v, isWordByte_v, letter_v, digit_v, wordAt_v, rword_v, isName_v, risName_v, recId_v, rId13_v, moneyCur_v, rCur01_v, inTotal_v, rwithin1_v, exCard_v, recCheck_v, rrecCheck_v, dNext_v, rNext_v, holder_v, rholder_v, foll_v, rfoll_v, rDec_v, rMove_v, exmpl_v, hlt, lb, lb2, hcr, hcr2, Rc.agg, BEq.rfl, we, Bool.and_self]
    exact LoopA.weak (ih (e + 1) h3') (by simp only [subE, get_cons, Nat.reduceEqDiff, ↓reduceIte, reduceCtorEq, Nat.reduceAdd, and_self, and_true]) (SubA.refl _)
theorem sameR_w (A : AH) (L : List Rc) (p q : Option Addr) (cap cap2 : Nat) (hL : StR Rc.cells 12 A p L) (hM : StR Rc.cells 12 A q L) (hl : L.length ≤ 3000) (B_ : AH) (hB_ : SubA A B_) : valA Tryd.prog 16 #[.slice p L.length cap, .slice q L.length cap2] B_ = some (.bool true) := valA_eq (pureA_at (by kernel_rfl) (sameR_h A L p q cap cap2 hL hM hl) hB_)
theorem sameR_v (A : AH) (L : List Rc) (p q : Option Addr) (cap cap2 : Nat) (hL : StR Rc.cells 12 A p L) (hM : StR Rc.cells 12 A q L) (hl : L.length ≤ 3000) : valA Tryd.prog 16 #[.slice p L.length cap, .slice q L.length cap2] A = some (.bool true) := valA_eq (pureA_at (by kernel_rfl) (sameR_h A L p q cap cap2 hL hM hl) (SubA.refl _))
theorem movesLaw_h (A : AH) (hT : TabA A) (c : Cs) (r : Rc) (hc : SzC c) (hr : SzR r) (s t d n : Int) : CallA Tryd.prog 4 #[.agg #[.string c.id, .string c.rc, .string c.rs, .string c.is, .string c.aq, .int .i64 c.am, .string c.cu, .int .i64 c.st, .int .i64 c.op, .int .i64 c.du], .agg #[.int .i64 r.kd, .string r.id, .string r.au, .string r.aq, .string r.is, .string r.me, .string r.ca, .int .i64 r.am, .string r.cu, .int .i64 r.da, .int .i64 r.ct, .bool r.fi], .agg #[.int .i64 s, .int .i64 t, .int .i64 d, .int .i64 n]] A (fun u_ A_ => u_ = .bool true ∧ SubA A A_) := by
  refine callA_of_denA ⟨Tryd.prog, 4, Tryd.f4, 68, [0, 1, 2, 3, 4, 5, 6, 7, 8, 9, 10, 11, 12], [], [(3, .q false)], _⟩ (args := [_, _, _]) Tryd.func4 rfl (by kernel_rfl) Tryd.ntmps4 (by simp) (by kernel_rfl) ?_
  intro ν fr; have nuE := fr.nu
  have aw := awake47_w A hT
  obtain ⟨x, b, e, hx⟩ : ∃ (x : Rc) (b : Bool) (e : Int), movV c r s t d n = .tuple #[.agg #[.int .i64 x.kd, .string x.id, .string x.au, .string x.aq, .string x.is, .string x.me, .string x.ca, .int .i64 x.am, .string x.cu, .int .i64 x.da, .int .i64 x.ct, .bool x.fi], .bool b, .int .i64 e] := ⟨movX c r s t d n, movB c r s t d n, movE c r s t d n, rfl⟩
  have mp := fun D hD => (panMove_w A hT c r s t d n hc hr D hD).trans (congrArg some hx)
  have mr := fun D => (rMove_v c r s t d n hc hr D).trans (congrArg some hx)
  simp (maxDischargeDepth := 16) only [argE_nil, argE_cons, ↓vmD, vmV, vmStd, Nat.reduceMul, ↓reduceIte, Nat.reduceAdd, Nat.reduceSub, Nat.reduceEqDiff, Nat.reduceLT, Nat.reduceLeDiff, reduceCtorEq, Int.reduceToNat, Int.reduceLT, Int.reduceLE, Int.reduceEq, Int.reduceNeg, Int.reduceBEq, Int.reduceBNe, String.reduceEq, forall_const, ↓vmDA, vmVA, ↓vmQA, vmR, vmRA, ↓vmSA, vmSV, tyS, nuE, SubA.skip, SubA.refl, fr.2, slIndexByte_v, indexByte_v, indexRune_v, containsRune_v, classOf_v, isWordByte_v, letter_v, digit_v, wordAt_v, rword_v, isName_v, risName_v, recId_v, rId13_v, moneyCur_v, rCur01_v, inTotal_v, rwithin1_v, exCard_v, recCheck_v, rrecCheck_v, dNext_v, rNext_v, holder_v, rholder_v, foll_v, rfoll_v, rDec_v, rMove_v, exmpl_v, mp, mr, BEq.rfl, Bool.and_self, aw]
theorem movesLaw_w (A : AH) (hT : TabA A) (c : Cs) (r : Rc) (hc : SzC c) (hr : SzR r) (s t d n : Int) (B_ : AH) (hB_ : SubA A B_) : valA Tryd.prog 4 #[.agg #[.string c.id, .string c.rc, .string c.rs, .string c.is, .string c.aq, .int .i64 c.am, .string c.cu, .int .i64 c.st, .int .i64 c.op, .int .i64 c.du], .agg #[.int .i64 r.kd, .string r.id, .string r.au, .string r.aq, .string r.is, .string r.me, .string r.ca, .int .i64 r.am, .string r.cu, .int .i64 r.da, .int .i64 r.ct, .bool r.fi], .agg #[.int .i64 s, .int .i64 t, .int .i64 d, .int .i64 n]] B_ = some (.bool true) := valA_eq (pureA_at (by kernel_rfl) (movesLaw_h A hT c r hc hr s t d n) hB_)
theorem movesLaw_v (A : AH) (hT : TabA A) (c : Cs) (r : Rc) (hc : SzC c) (hr : SzR r) (s t d n : Int) : valA Tryd.prog 4 #[.agg #[.string c.id, .string c.rc, .string c.rs, .string c.is, .string c.aq, .int .i64 c.am, .string c.cu, .int .i64 c.st, .int .i64 c.op, .int .i64 c.du], .agg #[.int .i64 r.kd, .string r.id, .string r.au, .string r.aq, .string r.is, .string r.me, .string r.ca, .int .i64 r.am, .string r.cu, .int .i64 r.da, .int .i64 r.ct, .bool r.fi], .agg #[.int .i64 s, .int .i64 t, .int .i64 d, .int .i64 n]] A = some (.bool true) := valA_eq (pureA_at (by kernel_rfl) (movesLaw_h A hT c r hc hr s t d n) (SubA.refl _))
theorem listsLaw_h (A : AH) (hT : TabA A) (c : Cs) (r : Rc) (hc : SzC c) (hr : SzR r) (L : List Int) (p : Option Addr) (cap : Nat) (hL : StR intC 1 A p L) (d : Int) : CallA Tryd.prog 5 #[.agg #[.string c.id, .string c.rc, .string c.rs, .string c.is, .string c.aq, .int .i64 c.am, .string c.cu, .int .i64 c.st, .int .i64 c.op, .int .i64 c.du], .agg #[.int .i64 r.kd, .string r.id, .string r.au, .string r.aq, .string r.is, .string r.me, .string r.ca, .int .i64 r.am, .string r.cu, .int .i64 r.da, .int .i64 r.ct, .bool r.fi], .slice p L.length cap, .int .i64 d] A (fun u_ A_ => u_ = .bool true ∧ SubA A A_) := by
  refine callA_of_denA ⟨Tryd.prog, 5, Tryd.f5, 44, [0, 1, 2, 3, 4, 5, 8, 9, 10, 11, 12], [8, 15], [], _⟩ (args := [_, _, _, _]) Tryd.func5 rfl (by kernel_rfl) Tryd.ntmps5 (by simp) (by kernel_rfl) ?_
  intro ν fr; have nuE := fr.nu
  have aw := awake47_w A hT
  by_cases h : 100 < L.length
  · have q : ((100 : Int) < (L.length : Int)) = True := eq_true (by omega)
    simp (maxDischargeDepth := 16) only [argE_nil, argE_cons, ↓vmD, vmV, vmStd, Nat.reduceMul, ↓reduceIte, Nat.reduceAdd, Nat.reduceSub, Nat.reduceEqDiff, Nat.reduceLT, Nat.reduceLeDiff, reduceCtorEq, Int.reduceToNat, Int.reduceLT, Int.reduceLE, Int.reduceEq, Int.reduceNeg, Int.reduceBEq, Int.reduceBNe, String.reduceEq, forall_const, ↓vmDA, vmVA, ↓vmQA, vmR, vmRA, ↓vmSA, vmSV, tyS, nuE, SubA.skip, SubA.refl, fr.2, slIndexByte_v, indexByte_v, indexRune_v, containsRune_v, classOf_v, isWordByte_v, letter_v, digit_v, wordAt_v, rword_v, isName_v, risName_v, recId_v, rId13_v, moneyCur_v, rCur01_v, inTotal_v, rwithin1_v, exCard_v, recCheck_v, rrecCheck_v, dNext_v, rNext_v, holder_v, rholder_v, foll_v, rfoll_v, rDec_v, rMove_v, exmpl_v, q, aw]
  have q : ((100 : Int) < (L.length : Int)) = False := eq_false (by omega)
  simp (maxDischargeDepth := 16) only [argE_nil, argE_cons, ↓vmD, vmV, vmStd, Nat.reduceMul, ↓reduceIte, Nat.reduceAdd, Nat.reduceSub, Nat.reduceEqDiff, Nat.reduceLT, Nat.reduceLeDiff, reduceCtorEq, Int.reduceToNat, Int.reduceLT, Int.reduceLE, Int.reduceEq, Int.reduceNeg, Int.reduceBEq, Int.reduceBNe, String.reduceEq, forall_const, ↓vmDA, vmVA, ↓vmQA, vmR, vmRA, ↓vmSA, vmSV, tyS, nuE, SubA.skip, SubA.refl, fr.2, slIndexByte_v, indexByte_v, indexRune_v, containsRune_v, classOf_v, isWordByte_v, letter_v, digit_v, wordAt_v, rword_v, isName_v, risName_v, recId_v, rId13_v, moneyCur_v, rCur01_v, inTotal_v, rwithin1_v, exCard_v, recCheck_v, rrecCheck_v, dNext_v, rNext_v, holder_v, rholder_v, foll_v, rfoll_v, rDec_v, rMove_v, exmpl_v, q]
  refine CallA.go (panMoves_h A hT c r hc hr L p cap hL (by omega) d) (SubA.skip (fr.2 1) (SubA.skip (fr.2 0) (SubA.refl _))) ?_ ?_
  · rintro v D ⟨v', B, _, _, dB, hD⟩
    exact SubA.trans dB.right hD
  rintro u D A1 ⟨v', B, rfl, hown, dB, hD⟩ hDA sS _
  obtain ⟨q1, vcap, rfl, _, hS⟩ := hown.read Rc.len
  have hS1 := hS.mono (SubA.trans (SubA.trans (SubA.left B _) hD) hDA)
  have sA1 : SubA A A1 := SubA.trans (SubA.skip (fr.2 1) (SubA.skip (fr.2 0) (SubA.refl _))) sS
  have l0 := sS (ν 0) _ (by simp only [Vm.look, nuE]; simp; rfl)
  have l1 := sS (ν 1) _ (by simp only [Vm.look, nuE]; simp; rfl)
  intro ν1 fr1
  have fr := fr1
  have nuE := fr.nu
  simp (maxDischargeDepth := 16) only [argE_nil, argE_cons, ↓vmD, vmV, vmStd, Nat.reduceMul, ↓reduceIte, Nat.reduceAdd, Nat.reduceSub, Nat.reduceEqDiff, Nat.reduceLT, Nat.reduceLeDiff, reduceCtorEq, Int.reduceToNat, Int.reduceLT, Int.reduceLE, Int.reduceEq, Int.reduceNeg, Int.reduceBEq, Int.reduceBNe, String.reduceEq, forall_const, ↓vmDA, vmVA, ↓vmQA, vmR, vmRA, ↓vmSA, vmSV, tyS, nuE, SubA.skip, SubA.refl, fr.2, slIndexByte_v, indexByte_v, indexRune_v, containsRune_v, classOf_v, isWordByte_v, letter_v, digit_v, wordAt_v, rword_v, isName_v, risName_v, recId_v, rId13_v, moneyCur_v, rCur01_v, inTotal_v, rwithin1_v, exCard_v, recCheck_v, rrecCheck_v, dNext_v, rNext_v, holder_v, rholder_v, foll_v, rfoll_v, rDec_v, rMove_v, exmpl_v, l0, l1]
  refine CallA.go (rMoves_h A c r hc hr L p cap hL (by omega) d) sA1 ?_ ?_
  · rintro v D ⟨v', B, _, _, dB, hD⟩
    exact SubA.trans dB.right hD
  rintro u D2 A2 ⟨v2, B2, rfl, hown2, dB2, hD2⟩ hDA2 sS2 _
  obtain ⟨q2, vcap2, rfl, _, hM⟩ := hown2.read Rc.len
  have hM2 := hM.mono (SubA.trans (SubA.trans (SubA.left B2 _) hD2) hDA2)
  have hS2 := hS1.mono sS2
  have sA2 := SubA.trans sA1 sS2
  intro ν2 fr2
  have fr := fr2
  have nuE := fr.nu
  have ll : (movL c r d L 0 []).1.length ≤ 3000 := by
    have : ∀ (l : List Int) (s : Int) (out : List Rc), (movL c r d l s out).1.length ≤ out.length + l.length := by
      intro l
      induction l with
      | nil => intro s out; simp [movL]
      | cons x l ih =>
        intro s out
        have h1 := ih x (if holdF s = holdF x then out else out ++ [movR c r x d (out.length + 1)])
        have h2 : (if holdF s = holdF x then out else out ++ [movR c r x d (out.length + 1)]).length ≤ out.length + 1 := by split <;> simp
        simp only [movL]
        split
        · simp
        · simp only [List.length_cons]
          omega
    have := this L 0 []
    simp at this
    omega
  have sm := sameR_w A2 _ q1 q2 vcap vcap2 hS2 hM2 ll
  simp (maxDischargeDepth := 16) only [argE_nil, argE_cons, ↓vmD, vmV, vmStd, Nat.reduceMul, ↓reduceIte, Nat.reduceAdd, Nat.reduceSub, Nat.reduceEqDiff, Nat.reduceLT, Nat.reduceLeDiff, reduceCtorEq, Int.reduceToNat, Int.reduceLT, Int.reduceLE, Int.reduceEq, Int.reduceNeg, Int.reduceBEq, Int.reduceBNe, String.reduceEq, forall_const, ↓vmDA, vmVA, ↓vmQA, vmR, vmRA, ↓vmSA, vmSV, tyS, nuE, SubA.skip, SubA.refl, fr.2, slIndexByte_v, indexByte_v, indexRune_v, containsRune_v, classOf_v, isWordByte_v, letter_v, digit_v, wordAt_v, rword_v, isName_v, risName_v, recId_v, rId13_v, moneyCur_v, rCur01_v, inTotal_v, rwithin1_v, exCard_v, recCheck_v, rrecCheck_v, dNext_v, rNext_v, holder_v, rholder_v, foll_v, rfoll_v, rDec_v, rMove_v, exmpl_v, sm, BEq.rfl, aw, sA2]
theorem listsLaw_w (A : AH) (hT : TabA A) (c : Cs) (r : Rc) (hc : SzC c) (hr : SzR r) (L : List Int) (p : Option Addr) (cap : Nat) (hL : StR intC 1 A p L) (d : Int) (B_ : AH) (hB_ : SubA A B_) : valA Tryd.prog 5 #[.agg #[.string c.id, .string c.rc, .string c.rs, .string c.is, .string c.aq, .int .i64 c.am, .string c.cu, .int .i64 c.st, .int .i64 c.op, .int .i64 c.du], .agg #[.int .i64 r.kd, .string r.id, .string r.au, .string r.aq, .string r.is, .string r.me, .string r.ca, .int .i64 r.am, .string r.cu, .int .i64 r.da, .int .i64 r.ct, .bool r.fi], .slice p L.length cap, .int .i64 d] B_ = some (.bool true) := valA_eq (pureA_at (by kernel_rfl) (listsLaw_h A hT c r hc hr L p cap hL d) hB_)
theorem listsLaw_v (A : AH) (hT : TabA A) (c : Cs) (r : Rc) (hc : SzC c) (hr : SzR r) (L : List Int) (p : Option Addr) (cap : Nat) (hL : StR intC 1 A p L) (d : Int) : valA Tryd.prog 5 #[.agg #[.string c.id, .string c.rc, .string c.rs, .string c.is, .string c.aq, .int .i64 c.am, .string c.cu, .int .i64 c.st, .int .i64 c.op, .int .i64 c.du], .agg #[.int .i64 r.kd, .string r.id, .string r.au, .string r.aq, .string r.is, .string r.me, .string r.ca, .int .i64 r.am, .string r.cu, .int .i64 r.da, .int .i64 r.ct, .bool r.fi], .slice p L.length cap, .int .i64 d] A = some (.bool true) := valA_eq (pureA_at (by kernel_rfl) (listsLaw_h A hT c r hc hr L p cap hL d) (SubA.refl _))
theorem sumsLaw_h (A : AH) (hT : TabA A) (c : Cs) (L M : List Rc) (p q : Option Addr) (cap cap2 : Nat) (hL : StR Rc.cells 12 A p L) (hM : StR Rc.cells 12 A q M) : CallA Tryd.prog 6 #[.agg #[.string c.id, .string c.rc, .string c.rs, .string c.is, .string c.aq, .int .i64 c.am, .string c.cu, .int .i64 c.st, .int .i64 c.op, .int .i64 c.du], .slice p L.length cap, .slice q M.length cap2] A (fun u_ A_ => u_ = .bool true ∧ SubA A A_) := by
  refine callA_of_denA ⟨Tryd.prog, 6, Tryd.f6, 50, [0, 1, 2, 3, 6, 7], [], [(6, .q false)], _⟩ (args := [_, _, _]) Tryd.func6 rfl (by kernel_rfl) Tryd.ntmps6 (by simp) (by kernel_rfl) ?_
  intro ν fr; have nuE := fr.nu
  have aw := awake47_w A hT
  by_cases h : 1000 < L.length
  · have z : ((1000 : Int) < (L.length : Int)) = True := eq_true (by omega)
    simp (maxDischargeDepth := 16) only [argE_nil, argE_cons, ↓vmD, vmV, vmStd, Nat.reduceMul, ↓reduceIte, Nat.reduceAdd, Nat.reduceSub, Nat.reduceEqDiff, Nat.reduceLT, Nat.reduceLeDiff, reduceCtorEq, Int.reduceToNat, Int.reduceLT, Int.reduceLE, Int.reduceEq, Int.reduceNeg, Int.reduceBEq, Int.reduceBNe, String.reduceEq, forall_const, ↓vmDA, vmVA, ↓vmQA, vmR, vmRA, ↓vmSA, vmSV, tyS, nuE, SubA.skip, SubA.refl, fr.2, slIndexByte_v, indexByte_v, indexRune_v, containsRune_v, classOf_v, isWordByte_v, letter_v, digit_v, wordAt_v, rword_v, isName_v, risName_v, recId_v, rId13_v, moneyCur_v, rCur01_v, inTotal_v, rwithin1_v, exCard_v, recCheck_v, rrecCheck_v, dNext_v, rNext_v, holder_v, rholder_v, foll_v, rfoll_v, rDec_v, rMove_v, exmpl_v, z, aw]
  have z : ((1000 : Int) < (L.length : Int)) = False := eq_false (by omega)
  by_cases h2 : 1000 < M.length
  · have z2 : ((1000 : Int) < (M.length : Int)) = True := eq_true (by omega)
    simp (maxDischargeDepth := 16) only [argE_nil, argE_cons, ↓vmD, vmV, vmStd, Nat.reduceMul, ↓reduceIte, Nat.reduceAdd, Nat.reduceSub, Nat.reduceEqDiff, Nat.reduceLT, Nat.reduceLeDiff, reduceCtorEq, Int.reduceToNat, Int.reduceLT, Int.reduceLE, Int.reduceEq, Int.reduceNeg, Int.reduceBEq, Int.reduceBNe, String.reduceEq, forall_const, ↓vmDA, vmVA, ↓vmQA, vmR, vmRA, ↓vmSA, vmSV, tyS, nuE, SubA.skip, SubA.refl, fr.2, slIndexByte_v, indexByte_v, indexRune_v, containsRune_v, classOf_v, isWordByte_v, letter_v, digit_v, wordAt_v, rword_v, isName_v, risName_v, recId_v, rId13_v, moneyCur_v, rCur01_v, inTotal_v, rwithin1_v, exCard_v, recCheck_v, rrecCheck_v, dNext_v, rNext_v, holder_v, rholder_v, foll_v, rfoll_v, rDec_v, rMove_v, exmpl_v, z, z2, aw]
  have z2 : ((1000 : Int) < (M.length : Int)) = False := eq_false (by omega)
  simp (maxDischargeDepth := 16) only [argE_nil, argE_cons, ↓vmD, vmV, vmStd, Nat.reduceMul, ↓reduceIte, Nat.reduceAdd, Nat.reduceSub, Nat.reduceEqDiff, Nat.reduceLT, Nat.reduceLeDiff, reduceCtorEq, Int.reduceToNat, Int.reduceLT, Int.reduceLE, Int.reduceEq, Int.reduceNeg, Int.reduceBEq, Int.reduceBNe, String.reduceEq, forall_const, ↓vmDA, vmVA, ↓vmQA, vmR, vmRA, ↓vmSA, vmSV, tyS, nuE, SubA.skip, SubA.refl, fr.2, slIndexByte_v, indexByte_v, indexRune_v, containsRune_v, classOf_v, isWordByte_v, letter_v, digit_v, wordAt_v, rword_v, isName_v, risName_v, recId_v, rId13_v, moneyCur_v, rCur01_v, inTotal_v, rwithin1_v, exCard_v, recCheck_v, rrecCheck_v, dNext_v, rNext_v, holder_v, rholder_v, foll_v, rfoll_v, rDec_v, rMove_v, exmpl_v, z, z2]
  have s0 : SubA A ((ν 0, (Obj.cells #[.string c.id, .string c.rc, .string c.rs, .string c.is, .string c.aq, .int .i64 c.am, .string c.cu, .int .i64 c.st, .int .i64 c.op, .int .i64 c.du] 25)) :: A) := SubA.skip (fr.2 0) (SubA.refl _)
  have oneC : ∀ (N : List Rc), ∀ u ∈ N.flatMap Rc.cells, u.oneCell' = true := by
    intro N u hu
    obtain ⟨x, _, hx⟩ := List.mem_flatMap.1 hu
    simp only [Rc.cells, List.mem_cons, List.not_mem_nil, or_false] at hx
    rcases hx with rfl | rfl | rfl | rfl | rfl | rfl | rfl | rfl | rfl | rfl | rfl | rfl <;> rfl
  refine RunA.use ?_
  refine append_src (m := L.length) (n := 0) (xs := []) (news := L.flatMap Rc.cells) (B := []) slc30 zro27 rfl (by decide) (OwnL.nil Rc.cells 12 27) (SubA.nil _) (hL.mono s0).src (oneC L) (by simp only [maxLen]; omega) (by omega) ?_
  intro v1 B1 ho1 hb1
  rw [Nat.zero_add, List.nil_append] at ho1
  have hb0 : Dis B1 ((ν 0, (Obj.cells #[.string c.id, .string c.rc, .string c.rs, .string c.is, .string c.aq, .int .i64 c.am, .string c.cu, .int .i64 c.st, .int .i64 c.op, .int .i64 c.du] 25)) :: A) := fun x hx => by
    cases hl : Vm.look B1 x with
    | none => rfl
    | some o =>
      rcases hb1 x (by rw [hl]; simp) with h | h
      · exact absurd rfl h
      · exact absurd h hx
  refine ⟨B1 ++ ((ν 0, (Obj.cells #[.string c.id, .string c.rc, .string c.rs, .string c.is, .string c.aq, .int .i64 c.am, .string c.cu, .int .i64 c.st, .int .i64 c.op, .int .i64 c.du] 25)) :: A), SubA.refl _, ?_⟩
  have ow1 : OwnL Rc.cells 12 27 v1 B1 L := ho1
  have s1 : SubA A (B1 ++ ((ν 0, (Obj.cells #[.string c.id, .string c.rc, .string c.rs, .string c.is, .string c.aq, .int .i64 c.am, .string c.cu, .int .i64 c.st, .int .i64 c.op, .int .i64 c.du] 25)) :: A)) := SubA.trans s0 hb0.right
  obtain ⟨q1, vc1, e1, _, hS1⟩ := ow1.read Rc.len
  intro ν1 fr1
  have nuE1 := fr1.nu
  simp (maxDischargeDepth := 16) only [argE_nil, argE_cons, ↓vmD, vmV, vmStd, Nat.reduceMul, ↓reduceIte, Nat.reduceAdd, Nat.reduceSub, Nat.reduceEqDiff, Nat.reduceLT, Nat.reduceLeDiff, reduceCtorEq, Int.reduceToNat, Int.reduceLT, Int.reduceLE, Int.reduceEq, Int.reduceNeg, Int.reduceBEq, Int.reduceBNe, String.reduceEq, forall_const, ↓vmDA, vmVA, ↓vmQA, vmR, vmRA, ↓vmSA, vmSV, tyS, nuE, slIndexByte_v, indexByte_v, indexRune_v, containsRune_v, classOf_v, isWordByte_v, letter_v, digit_v, wordAt_v, rword_v, isName_v, risName_v, recId_v, rId13_v, moneyCur_v, rCur01_v, inTotal_v, rwithin1_v, exCard_v, recCheck_v, rrecCheck_v, dNext_v, rNext_v, holder_v, rholder_v, foll_v, rfoll_v, rDec_v, rMove_v, exmpl_v]
  refine RunA.use ?_
  refine append_src (m := M.length) (n := L.length) (xs := L.flatMap Rc.cells) (news := M.flatMap Rc.cells) (B := B1) slc30 zro27 rfl (by decide) ow1 (SubA.left _ _) (hM.mono s1).src (oneC M) (by simp only [maxLen]; omega) (by omega) ?_
  intro v2 B2 ho2 hb2
  have ow2 : OwnL Rc.cells 12 27 v2 B2 (L ++ M) := by
    unfold OwnL
    rw [List.length_append, List.flatMap_append]
    exact ho2
  have d2 : Dis B2 ((ν 0, (Obj.cells #[.string c.id, .string c.rc, .string c.rs, .string c.is, .string c.aq, .int .i64 c.am, .string c.cu, .int .i64 c.st, .int .i64 c.op, .int .i64 c.du] 25)) :: A) := ap_dis hb2 hb0 hb0.right
  refine ⟨B2 ++ ((ν 0, (Obj.cells #[.string c.id, .string c.rc, .string c.rs, .string c.is, .string c.aq, .int .i64 c.am, .string c.cu, .int .i64 c.st, .int .i64 c.op, .int .i64 c.du] 25)) :: A), SubA.app hb0.right, ?_⟩
  obtain ⟨q2, vc2, rfl, _, hS2⟩ := ow2.read Rc.len
  have s2 : SubA A (B2 ++ ((ν 0, (Obj.cells #[.string c.id, .string c.rc, .string c.rs, .string c.is, .string c.aq, .int .i64 c.am, .string c.cu, .int .i64 c.st, .int .i64 c.op, .int .i64 c.du] 25)) :: A)) := SubA.trans s0 d2.right
  intro ν2 fr2
  have fr := fr2
  have nuE := fr.nu
  have l0 : Vm.look (B2 ++ ((ν 0, (Obj.cells #[.string c.id, .string c.rc, .string c.rs, .string c.is, .string c.aq, .int .i64 c.am, .string c.cu, .int .i64 c.st, .int .i64 c.op, .int .i64 c.du] 25)) :: A)) (ν 0) = some (Obj.cells #[.string c.id, .string c.rc, .string c.rs, .string c.is, .string c.aq, .int .i64 c.am, .string c.cu, .int .i64 c.st, .int .i64 c.op, .int .i64 c.du] 25) := d2.right _ _ (by simp [Vm.look])
  have hLL := hL.mono s2
  have hMM := hM.mono s2
  have n1 := panNet_w _ L p cap hLL (by omega) _ (SubA.refl _)
  have n2 := panNet_w _ M q cap2 hMM (by omega) _ (SubA.refl _)
  have n3 := panNet_w _ (L ++ M) q2 vc2 (hS2.mono (SubA.left B2 ((ν 0, (Obj.cells #[.string c.id, .string c.rc, .string c.rs, .string c.is, .string c.aq, .int .i64 c.am, .string c.cu, .int .i64 c.st, .int .i64 c.op, .int .i64 c.du] 25)) :: A))) (by simp; omega) _ (SubA.refl _)
  have n4 := rNet_w _ L p cap hLL (by omega) _ (SubA.refl _)
  have f1 := panFinal_w _ c L p cap hLL (by omega) _ (SubA.refl _)
  have f2 := rFinal_w _ c L p cap hLL (by omega) _ (SubA.refl _)
  rw [netF_app, List.length_append] at n3
  have bL := netF_b L
  have bM := netF_b M
  have wa : IntKind.i64.wrap (netF L + netF M) = netF L + netF M := w_i64 (by omega) (by omega)
  simp (maxDischargeDepth := 16) only [argE_nil, argE_cons, ↓vmD, vmV, vmStd, Nat.reduceMul, ↓reduceIte, Nat.reduceAdd, Nat.reduceSub, Nat.reduceEqDiff, Nat.reduceLT, Nat.reduceLeDiff, reduceCtorEq, Int.reduceToNat, Int.reduceLT, Int.reduceLE, Int.reduceEq, Int.reduceNeg, Int.reduceBEq, Int.reduceBNe, String.reduceEq, forall_const, ↓vmDA, vmVA, ↓vmQA, vmR, vmRA, ↓vmSA, vmSV, tyS, nuE, SubA.skip, SubA.refl, fr.2, slIndexByte_v, indexByte_v, indexRune_v, containsRune_v, classOf_v, isWordByte_v, letter_v, digit_v, wordAt_v, rword_v, isName_v, risName_v, recId_v, rId13_v, moneyCur_v, rCur01_v, inTotal_v, rwithin1_v, exCard_v, recCheck_v, rrecCheck_v, dNext_v, rNext_v, holder_v, rholder_v, foll_v, rfoll_v, rDec_v, rMove_v, exmpl_v, l0, n1, n2, n3, n4, f1, f2, wa, BEq.rfl, aw, s2, List.length_append]
theorem sumsLaw_w (A : AH) (hT : TabA A) (c : Cs) (L M : List Rc) (p q : Option Addr) (cap cap2 : Nat) (hL : StR Rc.cells 12 A p L) (hM : StR Rc.cells 12 A q M) (B_ : AH) (hB_ : SubA A B_) : valA Tryd.prog 6 #[.agg #[.string c.id, .string c.rc, .string c.rs, .string c.is, .string c.aq, .int .i64 c.am, .string c.cu, .int .i64 c.st, .int .i64 c.op, .int .i64 c.du], .slice p L.length cap, .slice q M.length cap2] B_ = some (.bool true) := valA_eq (pureA_at (by kernel_rfl) (sumsLaw_h A hT c L M p q cap cap2 hL hM) hB_)
theorem sumsLaw_v (A : AH) (hT : TabA A) (c : Cs) (L M : List Rc) (p q : Option Addr) (cap cap2 : Nat) (hL : StR Rc.cells 12 A p L) (hM : StR Rc.cells 12 A q M) : valA Tryd.prog 6 #[.agg #[.string c.id, .string c.rc, .string c.rs, .string c.is, .string c.aq, .int .i64 c.am, .string c.cu, .int .i64 c.st, .int .i64 c.op, .int .i64 c.du], .slice p L.length cap, .slice q M.length cap2] A = some (.bool true) := valA_eq (pureA_at (by kernel_rfl) (sumsLaw_h A hT c L M p q cap cap2 hL hM) (SubA.refl _))
end Go.Proofs.YtejcnpllodgmlaaDoor
