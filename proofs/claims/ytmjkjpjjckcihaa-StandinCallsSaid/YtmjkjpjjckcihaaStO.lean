/-
Stand-in: the walks of the reference's Decide and New, and of the law's helpers.
Conditions: none.
-/
import Derived.Test.YtmjkjpjjckcihaaStL
namespace Go.Proofs.Ytmjkjpjjckcihaa
open Go.Vm
set_option linter.unusedSimpArgs false
set_option linter.unusedVariables false
set_option maxHeartbeats 4000000
set_option maxRecDepth 20000
theorem sc_cho (a b c : ByteArray) (d e f : Int) (g h i : Bool) : sliceCells Try.prog 77 1 [(0, .agg #[.string a, .string b, .string c, .int .i64 d, .int .i64 e, .int .i64 f, .bool g, .bool h, .bool i])] = some (91, #[.string a, .string b, .string c, .int .i64 d, .int .i64 e, .int .i64 f, .bool g, .bool h, .bool i]) := by kernel_rfl
theorem domR {a n x : Nat} {o p q : Obj} {B Y : AH} (h : Vm.look ((a, p) :: Y) x ≠ none) : Vm.look ((n, o) :: (a, q) :: (B ++ Y)) x ≠ none := by
  simp only [Vm.look] at h ⊢
  by_cases h1 : n = x
  · rw [if_pos h1]; simp
  rw [if_neg h1]
  by_cases h2 : a = x
  · rw [if_pos h2]; simp
  rw [if_neg h2]; rw [if_neg h2] at h
  rw [look_append]
  split
  · simp
  · exact h
theorem rDecide_h (E : AH) (rb : Nat) (lm : List Lim) (L : List Dec) (hE : StV E rb lm L) (at_ : Int) (key iss card : List UInt8) (amt : Int) (hc : card.length ≤ 100000) : CallA Try.prog 13 #[.pointer (some ⟨rb, 0, none⟩), .int .i64 at_, .string (bs key), .string (bs iss), .string (bs card), .int .i64 amt] E (fun u_ A_ => u_ = .tuple #[.bool (decX lm L at_ key iss card amt).1.1, .int .i64 (decX lm L at_ key iss card amt).1.2] ∧ ∃ E', StV E' rb lm (decX lm L at_ key iss card amt).2 ∧ SubA E' A_ ∧ ∀ x, Vm.look E x ≠ none → Vm.look A_ x ≠ none) := by
  refine callA_of_denA ⟨Try.prog, 13, Try.f13, 93, [0, 1, 2, 3, 4, 5, 12, 13, 14, 16, 17], [], [(11, .q false)], _⟩ (args := [_, _, _, _, _, _]) Try.func13 rfl (by kernel_rfl) Try.ntmps13 (by simp) (by kernel_rfl) ?_
  intro ν fr; have nuE := fr.nu
  have ck := fun A => rCheck_v card hc A
  have dom0 : ∀ x, Vm.look E x ≠ none → Vm.look E x ≠ none := fun x hx => hx
  by_cases a1 : dayD at_ < 0
  · have e := decX_err (lm := lm) (L := L) (iss := iss) (k := 14) (by unfold decE; rw [if_pos a1] : decE at_ key card amt = 14) (by decide)
    simp (maxDischargeDepth := 16) only [argE_nil, argE_cons, ↓vmD, vmV, vmStd, Nat.reduceMul, ↓reduceIte, Nat.reduceAdd, Nat.reduceSub, Nat.reduceEqDiff, Nat.reduceLT, Nat.reduceLeDiff, reduceCtorEq, Int.reduceToNat, Int.reduceLT, Int.reduceLE, Int.reduceEq, Int.reduceNeg, Int.reduceBEq, Int.reduceBNe, String.reduceEq, forall_const, ↓vmDA, vmVA, ↓vmQA, vmR, vmRA, ↓vmSA, vmSV, tyS, nuE, SubA.skip, SubA.refl, fr.2, areDigits_v, panSum_v, rdigits_v, rsum_v, panLuhn_v, rLuhn_v, panCheck_v, rCheck_v, calIsDate_v, calDay_v, stLim_v, slIndexByte_v, indexByte_v, indexRune_v, containsRune_v, classOf_v, isWordByte_v, letter_v, digit_v, wordAt_v, rword_v, isName_v, risName_v, rIsDate_v, rDay_v, rAmount_v, awk_v, dayV, a1, e]
    exact ⟨E, hE, SubA.refl _, dom0⟩
  have b1 : ((key.length : Int) < 1) = (key.length < 1) := propext ⟨fun h => by omega, fun h => by omega⟩
  have b2 : ((40 : Int) < (key.length : Int)) = (40 < key.length) := propext ⟨fun h => by omega, fun h => by omega⟩
  by_cases a2 : key.length < 1 ∨ 40 < key.length
  · have e := decX_err (lm := lm) (L := L) (iss := iss) (k := 5) (by unfold decE; rw [if_neg a1, if_pos a2] : decE at_ key card amt = 5) (by decide)
    by_cases a3 : key.length < 1
    · simp (maxDischargeDepth := 16) only [argE_nil, argE_cons, ↓vmD, vmV, vmStd, Nat.reduceMul, ↓reduceIte, Nat.reduceAdd, Nat.reduceSub, Nat.reduceEqDiff, Nat.reduceLT, Nat.reduceLeDiff, reduceCtorEq, Int.reduceToNat, Int.reduceLT, Int.reduceLE, Int.reduceEq, Int.reduceNeg, Int.reduceBEq, Int.reduceBNe, String.reduceEq, forall_const, ↓vmDA, vmVA, ↓vmQA, vmR, vmRA, ↓vmSA, vmSV, tyS, nuE, SubA.skip, SubA.refl, fr.2, areDigits_v, panSum_v, rdigits_v, rsum_v, panLuhn_v, rLuhn_v, panCheck_v, rCheck_v, calIsDate_v, calDay_v, stLim_v, slIndexByte_v, indexByte_v, indexRune_v, containsRune_v, classOf_v, isWordByte_v, letter_v, digit_v, wordAt_v, rword_v, isName_v, risName_v, rIsDate_v, rDay_v, rAmount_v, awk_v, dayV, a1, bs_size, b1, a3, e]
      exact ⟨E, hE, SubA.refl _, dom0⟩
    · have a4 : 40 < key.length := a2.resolve_left a3
      simp (maxDischargeDepth := 16) only [argE_nil, argE_cons, ↓vmD, vmV, vmStd, Nat.reduceMul, ↓reduceIte, Nat.reduceAdd, Nat.reduceSub, Nat.reduceEqDiff, Nat.reduceLT, Nat.reduceLeDiff, reduceCtorEq, Int.reduceToNat, Int.reduceLT, Int.reduceLE, Int.reduceEq, Int.reduceNeg, Int.reduceBEq, Int.reduceBNe, String.reduceEq, forall_const, ↓vmDA, vmVA, ↓vmQA, vmR, vmRA, ↓vmSA, vmSV, tyS, nuE, SubA.skip, SubA.refl, fr.2, areDigits_v, panSum_v, rdigits_v, rsum_v, panLuhn_v, rLuhn_v, panCheck_v, rCheck_v, calIsDate_v, calDay_v, stLim_v, slIndexByte_v, indexByte_v, indexRune_v, containsRune_v, classOf_v, isWordByte_v, letter_v, digit_v, wordAt_v, rword_v, isName_v, risName_v, rIsDate_v, rDay_v, rAmount_v, awk_v, dayV, a1, bs_size, b1, b2, a3, a4, e]
      exact ⟨E, hE, SubA.refl _, dom0⟩
  have a3 : ¬ key.length < 1 := fun h => a2 (.inl h)
  have a4 : ¬ 40 < key.length := fun h => a2 (.inr h)
  by_cases a5 : chk card = 0
  rotate_left
  · have e := decX_err (lm := lm) (L := L) (iss := iss) (k := 17) (by unfold decE; rw [if_neg a1, if_neg a2, if_pos a5] : decE at_ key card amt = 17) (by decide)
    have z : decide (chk card = 0) = false := by simpa using a5
    simp (maxDischargeDepth := 16) only [argE_nil, argE_cons, ↓vmD, vmV, vmStd, Nat.reduceMul, ↓reduceIte, Nat.reduceAdd, Nat.reduceSub, Nat.reduceEqDiff, Nat.reduceLT, Nat.reduceLeDiff, reduceCtorEq, Int.reduceToNat, Int.reduceLT, Int.reduceLE, Int.reduceEq, Int.reduceNeg, Int.reduceBEq, Int.reduceBNe, String.reduceEq, forall_const, ↓vmDA, vmVA, ↓vmQA, vmR, vmRA, ↓vmSA, vmSV, tyS, nuE, SubA.skip, SubA.refl, fr.2, areDigits_v, panSum_v, rdigits_v, rsum_v, panLuhn_v, rLuhn_v, panCheck_v, rCheck_v, calIsDate_v, calDay_v, stLim_v, slIndexByte_v, indexByte_v, indexRune_v, containsRune_v, classOf_v, isWordByte_v, letter_v, digit_v, wordAt_v, rword_v, isName_v, risName_v, rIsDate_v, rDay_v, rAmount_v, awk_v, dayV, a1, bs_size, b1, b2, a3, a4, ck, chk_bne, z, e]
    exact ⟨E, hE, SubA.refl _, dom0⟩
  by_cases a6 : amt < 1 ∨ 999999999999 < amt
  · have e := decX_err (lm := lm) (L := L) (iss := iss) (k := 4) (by unfold decE; rw [if_neg a1, if_neg a2, if_neg (fun h => h a5), if_pos a6] : decE at_ key card amt = 4) (by decide)
    by_cases a7 : amt < 1
    · simp (maxDischargeDepth := 16) only [argE_nil, argE_cons, ↓vmD, vmV, vmStd, Nat.reduceMul, ↓reduceIte, Nat.reduceAdd, Nat.reduceSub, Nat.reduceEqDiff, Nat.reduceLT, Nat.reduceLeDiff, reduceCtorEq, Int.reduceToNat, Int.reduceLT, Int.reduceLE, Int.reduceEq, Int.reduceNeg, Int.reduceBEq, Int.reduceBNe, String.reduceEq, forall_const, ↓vmDA, vmVA, ↓vmQA, vmR, vmRA, ↓vmSA, vmSV, tyS, nuE, SubA.skip, SubA.refl, fr.2, areDigits_v, panSum_v, rdigits_v, rsum_v, panLuhn_v, rLuhn_v, panCheck_v, rCheck_v, calIsDate_v, calDay_v, stLim_v, slIndexByte_v, indexByte_v, indexRune_v, containsRune_v, classOf_v, isWordByte_v, letter_v, digit_v, wordAt_v, rword_v, isName_v, risName_v, rIsDate_v, rDay_v, rAmount_v, awk_v, dayV, a1, bs_size, b1, b2, a3, a4, ck, chk_bne, a5, decide_true, a7, e]
      exact ⟨E, hE, SubA.refl _, dom0⟩
    · have a8 : 999999999999 < amt := a6.resolve_left a7
      simp (maxDischargeDepth := 16) only [argE_nil, argE_cons, ↓vmD, vmV, vmStd, Nat.reduceMul, ↓reduceIte, Nat.reduceAdd, Nat.reduceSub, Nat.reduceEqDiff, Nat.reduceLT, Nat.reduceLeDiff, reduceCtorEq, Int.reduceToNat, Int.reduceLT, Int.reduceLE, Int.reduceEq, Int.reduceNeg, Int.reduceBEq, Int.reduceBNe, String.reduceEq, forall_const, ↓vmDA, vmVA, ↓vmQA, vmR, vmRA, ↓vmSA, vmSV, tyS, nuE, SubA.skip, SubA.refl, fr.2, areDigits_v, panSum_v, rdigits_v, rsum_v, panLuhn_v, rLuhn_v, panCheck_v, rCheck_v, calIsDate_v, calDay_v, stLim_v, slIndexByte_v, indexByte_v, indexRune_v, containsRune_v, classOf_v, isWordByte_v, letter_v, digit_v, wordAt_v, rword_v, isName_v, risName_v, rIsDate_v, rDay_v, rAmount_v, awk_v, dayV, a1, bs_size, b1, b2, a3, a4, ck, chk_bne, a5, decide_true, a7, a8, e]
      exact ⟨E, hE, SubA.refl _, dom0⟩
  have a7 : ¬ amt < 1 := fun h => a6 (.inl h)
  have a8 : ¬ 999999999999 < amt := fun h => a6 (.inr h)
  have hde : decE at_ key card amt = 0 := by unfold decE; rw [if_neg a1, if_neg a2, if_neg (fun h => h a5), if_neg a6]
  have fn := rIndex_v E rb lm L hE key
  obtain ⟨ql, qc, cl, cc, lr, hs1, hs, hok, hlm⟩ := hE.out
  obtain ⟨hu, hamt, hlen, hwai⟩ := hok
  cases hp : posD key L with
  | some i =>
    simp only [hp] at fn
    obtain ⟨d, hd, hk⟩ := posD_some hp
    have hlt := (List.getElem?_eq_some_iff.1 hd).1
    have e : decX lm L at_ key iss card amt = ((d.app, 0), L) := by unfold decX; rw [if_neg (fun h => h hde)]; simp only [hp, hd]
    obtain ⟨bk, off, cs, ty, fr0, hp0, hbk, hcr, hcc⟩ := hs.at hd
    subst hp0
    have c6 := hcc 6 _ rfl
    have c3 : ((0 : Int) ≤ (i : Int)) = True := eq_true (by omega)
    have c4 : ((i : Int) < (L.length : Int)) = True := eq_true (by omega)
    simp (maxDischargeDepth := 16) only [argE_nil, argE_cons, ↓vmD, vmV, vmStd, Nat.reduceMul, ↓reduceIte, Nat.reduceAdd, Nat.reduceSub, Nat.reduceEqDiff, Nat.reduceLT, Nat.reduceLeDiff, reduceCtorEq, Int.reduceToNat, Int.reduceLT, Int.reduceLE, Int.reduceEq, Int.reduceNeg, Int.reduceBEq, Int.reduceBNe, String.reduceEq, forall_const, ↓vmDA, vmVA, ↓vmQA, vmR, vmRA, ↓vmSA, vmSV, tyS, nuE, SubA.skip, SubA.refl, fr.2, areDigits_v, panSum_v, rdigits_v, rsum_v, panLuhn_v, rLuhn_v, panCheck_v, rCheck_v, calIsDate_v, calDay_v, stLim_v, slIndexByte_v, indexByte_v, indexRune_v, containsRune_v, classOf_v, isWordByte_v, letter_v, digit_v, wordAt_v, rword_v, isName_v, risName_v, rIsDate_v, rDay_v, rAmount_v, awk_v, dayV, a1, bs_size, b1, b2, a3, a4, ck, chk_bne, a5, decide_true, a7, a8, fn, c3, c4, lr, hbk, c6, e]
    exact ⟨E, hE, SubA.refl _, dom0⟩
  | none =>
    simp only [hp] at fn
    by_cases h256 : 256 ≤ L.length
    · have e : decX lm L at_ key iss card amt = ((false, 12), L) := by unfold decX; rw [if_neg (fun h => h hde)]; simp only [hp]; rw [if_pos h256]
      have q256 : ((256 : Int) ≤ (L.length : Int)) = True := eq_true (by omega)
      simp (maxDischargeDepth := 16) only [argE_nil, argE_cons, ↓vmD, vmV, vmStd, Nat.reduceMul, ↓reduceIte, Nat.reduceAdd, Nat.reduceSub, Nat.reduceEqDiff, Nat.reduceLT, Nat.reduceLeDiff, reduceCtorEq, Int.reduceToNat, Int.reduceLT, Int.reduceLE, Int.reduceEq, Int.reduceNeg, Int.reduceBEq, Int.reduceBNe, String.reduceEq, forall_const, ↓vmDA, vmVA, ↓vmQA, vmR, vmRA, ↓vmSA, vmSV, tyS, nuE, SubA.skip, SubA.refl, fr.2, areDigits_v, panSum_v, rdigits_v, rsum_v, panLuhn_v, rLuhn_v, panCheck_v, rCheck_v, calIsDate_v, calDay_v, stLim_v, slIndexByte_v, indexByte_v, indexRune_v, containsRune_v, classOf_v, isWordByte_v, letter_v, digit_v, wordAt_v, rword_v, isName_v, risName_v, rIsDate_v, rDay_v, rAmount_v, awk_v, dayV, a1, bs_size, b1, b2, a3, a4, ck, chk_bne, a5, decide_true, a7, a8, fn, lr, q256, e]
      exact ⟨E, hE, SubA.refl _, dom0⟩
    have q256 : ((256 : Int) ≤ (L.length : Int)) = False := eq_false (by omega)
    have e : decX lm L at_ key iss card amt = ((permD lm L iss card amt (dayD at_), 0), L ++ [newD lm L at_ key iss card amt]) := by unfold decX; rw [if_neg (fun h => h hde)]; simp only [hp]; rw [if_neg h256]
    have f0 := fr.2 0
    have ham : 1 ≤ amt ∧ amt ≤ 999999999999 := by omega
    have mv := rMay_w E rb lm L hE key iss card amt at_ (dayD at_) ham _ (SubA.fresh (o := (Obj.cells #[.string (bs key), .string (bs iss), .string (bs card), .int .i64 amt, .int .i64 at_] 89)) f0 (SubA.refl _))
    have nrb := fr.ne (b := rb) (by rw [lr]; simp)
    simp (maxDischargeDepth := 16) only [argE_nil, argE_cons, ↓vmD, vmV, vmStd, Nat.reduceMul, ↓reduceIte, Nat.reduceAdd, Nat.reduceSub, Nat.reduceEqDiff, Nat.reduceLT, Nat.reduceLeDiff, reduceCtorEq, Int.reduceToNat, Int.reduceLT, Int.reduceLE, Int.reduceEq, Int.reduceNeg, Int.reduceBEq, Int.reduceBNe, String.reduceEq, forall_const, ↓vmDA, vmVA, ↓vmQA, vmR, vmRA, ↓vmSA, vmSV, tyS, nuE, SubA.skip, SubA.refl, fr.2, areDigits_v, panSum_v, rdigits_v, rsum_v, panLuhn_v, rLuhn_v, panCheck_v, rCheck_v, calIsDate_v, calDay_v, stLim_v, slIndexByte_v, indexByte_v, indexRune_v, containsRune_v, classOf_v, isWordByte_v, letter_v, digit_v, wordAt_v, rword_v, isName_v, risName_v, rIsDate_v, rDay_v, rAmount_v, awk_v, dayV, a1, bs_size, b1, b2, a3, a4, ck, chk_bne, a5, decide_true, a7, a8, fn, lr, q256, nrb, mv]
    clear lr hs1 hs
    obtain ⟨vl, vc, Bl, Bc, rfl, sp, h1, h2, _, _⟩ := hE
    obtain ⟨ql, cl, rfl, _, _⟩ := h1.read limC_len
    obtain ⟨qc, cc, rfl, _, _⟩ := h2.read choC_len
    have spA := Sep.fresh f0 (Obj.cells #[.string (bs key), .string (bs iss), .string (bs card), .int .i64 amt, .int .i64 at_] 89) sp
    have m1 := ne_dis (show Dis [(ν 0, _)] [(rb, _)] from spA.dis2 (i := 0) (j := 1) (by decide) (by simp) (by simp))
    generalize ν 0 = n at *
    refine MeantA.plan [(0, 0), (1, 0), (2, 0), (3, 0), (4, 0), (5, 0), (6, 0), (7, 0), (8, 0), (9, 0), (10, 0), (11, 1), (12, 0), (13, 0), (14, 2)] [(n, (Obj.cells #[.string (bs key), .string (bs iss), .string (bs card), .int .i64 amt, .int .i64 at_] 89)), (rb, (Obj.cells #[.slice ql lm.length cl, .slice qc L.length cc] 79))] (spA.subs [0, 1] rfl) (by kernel_rfl) (by kernel_rfl) (by kernel_rfl) (by kernel_rfl) (by kernel_rfl) (by kernel_rfl) ?_
    intro ν1 fr1
    have n1' := fr1.2 0
    have nn := fr1.ne (b := n) (by simp [Vm.look])
    have nv := fr1.ne (b := rb) (by simp [cat, Vm.look, m1])
    have fr := fr1
    have nuE := fr1.nu
    simp only [cat] at n1' ⊢
    simp (maxDischargeDepth := 16) only [argE_nil, argE_cons, ↓vmD, vmV, vmStd, Nat.reduceMul, ↓reduceIte, Nat.reduceAdd, Nat.reduceSub, Nat.reduceEqDiff, Nat.reduceLT, Nat.reduceLeDiff, reduceCtorEq, Int.reduceToNat, Int.reduceLT, Int.reduceLE, Int.reduceEq, Int.reduceNeg, Int.reduceBEq, Int.reduceBNe, String.reduceEq, forall_const, ↓vmDA, vmVA, ↓vmQA, vmR, vmRA, ↓vmSA, vmSV, tyS, nuE, SubA.skip, SubA.refl, fr.2, areDigits_v, panSum_v, rdigits_v, rsum_v, panLuhn_v, rLuhn_v, panCheck_v, rCheck_v, calIsDate_v, calDay_v, stLim_v, slIndexByte_v, indexByte_v, indexRune_v, containsRune_v, classOf_v, isWordByte_v, letter_v, digit_v, wordAt_v, rword_v, isName_v, risName_v, rIsDate_v, rDay_v, rAmount_v, awk_v, m1, nn, nv, sc_cho]
    have hX : SubA (cat [[(n, (Obj.cells #[.string (bs key), .string (bs iss), .string (bs card), .int .i64 amt, .int .i64 at_] 89))], [(rb, (Obj.cells #[.slice ql lm.length cl, .slice qc L.length cc] 79))], Bl]) (cat [[(n, (Obj.cells #[.string (bs key), .string (bs iss), .string (bs card), .int .i64 amt, .int .i64 at_] 89))], [(rb, (Obj.cells #[.slice ql lm.length cl, .slice qc L.length cc] 79))], Bl, Bc]) := spA.subs [0, 1, 2] rfl
    have hBs : SubA Bc (cat [[(n, (Obj.cells #[.string (bs key), .string (bs iss), .string (bs card), .int .i64 amt, .int .i64 at_] 89))], [(rb, (Obj.cells #[.slice ql lm.length cl, .slice qc L.length cc] 79))], Bl, Bc]) := spA.subs [3] rfl
    have hXs : SubA (cat [[(n, (Obj.cells #[.string (bs key), .string (bs iss), .string (bs card), .int .i64 amt, .int .i64 at_] 89))], [(rb, (Obj.cells #[.slice ql lm.length cl, .slice qc L.length cc] 79))], Bl]) ((ν1 0, (Obj.cells #[.string (bs key), .string (bs iss), .string (bs card), .int .i64 amt, .int .i64 at_, .int .i64 (dayD at_), .bool (permD lm L iss card amt (dayD at_)), .bool false, .bool (permD lm L iss card amt (dayD at_))] 91)) :: cat [[(n, (Obj.cells #[.string (bs key), .string (bs iss), .string (bs card), .int .i64 amt, .int .i64 at_] 89))], [(rb, (Obj.cells #[.slice ql lm.length cl, .slice qc L.length cc] 79))], Bl, Bc]) := SubA.fresh n1' hX
    refine RunA.use ?_
    refine append_src (m := 1) (news := choC (newD lm L at_ key iss card amt)) (B := Bc) slc77 zro91 rfl (by decide) h2 (SubA.fresh n1' hBs) (.inr ⟨ν1 0, 0, rfl, by simp (maxDischargeDepth := 16) only [argE_nil, argE_cons, ↓vmD, vmV, vmStd, Nat.reduceMul, ↓reduceIte, Nat.reduceAdd, Nat.reduceSub, Nat.reduceEqDiff, Nat.reduceLT, Nat.reduceLeDiff, reduceCtorEq, Int.reduceToNat, Int.reduceLT, Int.reduceLE, Int.reduceEq, Int.reduceNeg, Int.reduceBEq, Int.reduceBNe, String.reduceEq, forall_const, ↓vmDA, vmVA, ↓vmQA, vmR, vmRA, ↓vmSA, vmSV, tyS, nuE, SubA.skip, SubA.refl, fr.2, areDigits_v, panSum_v, rdigits_v, rsum_v, panLuhn_v, rLuhn_v, panCheck_v, rCheck_v, calIsDate_v, calDay_v, stLim_v, slIndexByte_v, indexByte_v, indexRune_v, containsRune_v, classOf_v, isWordByte_v, letter_v, digit_v, wordAt_v, rword_v, isName_v, risName_v, rIsDate_v, rDay_v, rAmount_v, awk_v, choC, newD]⟩) (by simp [choC, Value.oneCell']) (by simp only [maxLen]; omega) (by omega) ?_
    intro v' B' ho' hb'
    have dB' : Dis B' (cat [[(n, (Obj.cells #[.string (bs key), .string (bs iss), .string (bs card), .int .i64 amt, .int .i64 at_] 89))], [(rb, (Obj.cells #[.slice ql lm.length cl, .slice qc L.length cc] 79))], Bl]) := ap_dis hb' (spA.pick [3, 0, 1, 2] rfl rfl).dis hXs
    have sp' := Sep.cons dB' (spA.pick [0, 1, 2] rfl rfl)
    have ow' : OwnL choC 9 91 v' B' (L ++ [newD lm L at_ key iss card amt]) := by
      unfold OwnL
      rw [List.length_append, List.flatMap_append]
      simpa using ho'
    obtain ⟨q2, cap2, rfl, _, _⟩ := ow'.read choC_len
    have hBA : SubA (cat [Bl, Bc]) ((ν1 0, (Obj.cells #[.string (bs key), .string (bs iss), .string (bs card), .int .i64 amt, .int .i64 at_, .int .i64 (dayD at_), .bool (permD lm L iss card amt (dayD at_)), .bool false, .bool (permD lm L iss card amt (dayD at_))] 91)) :: cat [[(n, (Obj.cells #[.string (bs key), .string (bs iss), .string (bs card), .int .i64 amt, .int .i64 at_] 89))], [(rb, (Obj.cells #[.slice ql lm.length cl, .slice qc L.length cc] 79))], Bl, Bc]) := SubA.fresh n1' (spA.subs [2, 3] rfl)
    have hX2 : SubA (cat [[(n, (Obj.cells #[.string (bs key), .string (bs iss), .string (bs card), .int .i64 amt, .int .i64 at_] 89))], [(rb, (Obj.cells #[.slice ql lm.length cl, .slice qc L.length cc] 79))]]) ((ν1 0, (Obj.cells #[.string (bs key), .string (bs iss), .string (bs card), .int .i64 amt, .int .i64 at_, .int .i64 (dayD at_), .bool (permD lm L iss card amt (dayD at_)), .bool false, .bool (permD lm L iss card amt (dayD at_))] 91)) :: cat [[(n, (Obj.cells #[.string (bs key), .string (bs iss), .string (bs card), .int .i64 amt, .int .i64 at_] 89))], [(rb, (Obj.cells #[.slice ql lm.length cl, .slice qc L.length cc] 79))], Bl, Bc]) := SubA.fresh n1' (spA.subs [0, 1] rfl)
    have d2 : Dis B' (cat [[(n, (Obj.cells #[.string (bs key), .string (bs iss), .string (bs card), .int .i64 amt, .int .i64 at_] 89))], [(rb, (Obj.cells #[.slice ql lm.length cl, .slice qc L.length cc] 79))]]) := (sp'.pick [0, 1, 2] rfl rfl).dis
    refine ⟨[(n, (Obj.cells #[.string (bs key), .string (bs iss), .string (bs card), .int .i64 amt, .int .i64 at_] 89)), (rb, (Obj.cells #[.slice ql lm.length cl, .slice qc L.length cc] 79))] ++ (B' ++ (Bl ++ Bc)), SubA.both (d2.sub hX2) (SubA.app hBA), ?_⟩
    intro ν2 fr2
    have fr := fr2
    have nuE := fr.nu
    simp only [List.cons_append, List.nil_append] at *
    simp (maxDischargeDepth := 16) only [argE_nil, argE_cons, ↓vmD, vmV, vmStd, Nat.reduceMul, ↓reduceIte, Nat.reduceAdd, Nat.reduceSub, Nat.reduceEqDiff, Nat.reduceLT, Nat.reduceLeDiff, reduceCtorEq, Int.reduceToNat, Int.reduceLT, Int.reduceLE, Int.reduceEq, Int.reduceNeg, Int.reduceBEq, Int.reduceBNe, String.reduceEq, forall_const, ↓vmDA, vmVA, ↓vmQA, vmR, vmRA, ↓vmSA, vmSV, tyS, nuE, SubA.skip, SubA.refl, fr.2, areDigits_v, panSum_v, rdigits_v, rsum_v, panLuhn_v, rLuhn_v, panCheck_v, rCheck_v, calIsDate_v, calDay_v, stLim_v, slIndexByte_v, indexByte_v, indexRune_v, containsRune_v, classOf_v, isWordByte_v, letter_v, digit_v, wordAt_v, rword_v, isName_v, risName_v, rIsDate_v, rDay_v, rAmount_v, awk_v, m1, e]
    have spF := Sep.set (l := [[(n, (Obj.cells #[.string (bs key), .string (bs iss), .string (bs card), .int .i64 amt, .int .i64 at_] 89))], [(rb, (Obj.cells #[.slice ql lm.length cl, .slice qc L.length cc] 79))], Bl, B']) 1 [(rb, (Obj.cells #[.slice ql lm.length cl, .slice q2 (L ++ [newD lm L at_ key iss card amt]).length cap2] 79))] (sp'.pick [1, 2, 3, 0] rfl rfl) one_less
    refine ⟨cat [[(rb, (Obj.cells #[.slice ql lm.length cl, .slice q2 (L ++ [newD lm L at_ key iss card amt]).length cap2] 79))], Bl, B'], ⟨_, _, Bl, B', rfl, spF.pick [1, 2, 3] rfl rfl, h1, ow', ?_, hlm⟩, ?_, ?_⟩
    · refine ⟨keyU_app hu hp, fun x hx => ?_, by simp; omega, fun x hx hxw => ?_⟩
      · rcases List.mem_append.1 hx with h | h
        · exact hamt x h
        · simp at h; rw [h]; exact ham
      · rcases List.mem_append.1 hx with h | h
        · exact hwai x h hxw
        · simp at h; rw [h] at hxw ⊢; exact ⟨hxw, rfl⟩
    · exact SubA.trans ((spF.pick [0, 1, 3, 2] rfl rfl).subs [1, 3, 2] rfl) (SubA.app (B := [_, _]) (SubA.app (SubA.left Bl Bc)))
    · exact fun x hx => domR hx

def bsLim (l : Lim) : Value := .agg #[.string (bs l.iss), .int .i64 l.each, .int .i64 l.day, .int .i64 l.cnt]
theorem sc_rlim (a : ByteArray) (b c d : Int) : sliceCells Try.prog 33 1 [(0, .agg #[.string a, .int .i64 b, .int .i64 c, .int .i64 d])] = some (76, #[.string a, .int .i64 b, .int .i64 c, .int .i64 d]) := by kernel_rfl
theorem sc_rlim0 : sliceCells Try.prog 33 0 [] = some (76, #[]) := by kernel_rfl
theorem limits_h (A : AH) (L : List Lim) (p : Option Addr) (cap : Nat) (hL : StR limC 4 A p L) (hl : L.length ≤ 1000) : CallA Try.prog 11 #[.slice p L.length cap] A (fun u_ A_ => ∃ v B, u_ = v ∧ OwnL limC 4 76 v B L ∧ Dis B A ∧ SubA (B ++ A) A_) := by
  refine callA_of_denA ⟨Try.prog, 11, Try.f11, 19, [0, 2, 3, 4], [], [], _⟩ (args := [_]) Try.func11 rfl (by kernel_rfl) Try.ntmps11 (by simp) (by kernel_rfl) ?_
  intro ν fr; have nuE := fr.nu
  simp (maxDischargeDepth := 16) only [argE_nil, argE_cons, ↓vmD, vmV, vmStd, Nat.reduceMul, ↓reduceIte, Nat.reduceAdd, Nat.reduceSub, Nat.reduceEqDiff, Nat.reduceLT, Nat.reduceLeDiff, reduceCtorEq, Int.reduceToNat, Int.reduceLT, Int.reduceLE, Int.reduceEq, Int.reduceNeg, Int.reduceBEq, Int.reduceBNe, String.reduceEq, forall_const, ↓vmDA, vmVA, ↓vmQA, vmR, vmRA, ↓vmSA, vmSV, tyS, nuE, SubA.skip, SubA.refl, fr.2, areDigits_v, panSum_v, rdigits_v, rsum_v, panLuhn_v, rLuhn_v, panCheck_v, rCheck_v, calIsDate_v, calDay_v, stLim_v, slIndexByte_v, indexByte_v, indexRune_v, containsRune_v, classOf_v, isWordByte_v, letter_v, digit_v, wordAt_v, rword_v, isName_v, risName_v, rIsDate_v, rDay_v, rAmount_v, awk_v]
  obtain ⟨e, l, v, B, he, hv, hB, hd, hle, ho, d⟩ : ∃ (e : Nat) (l : List Lim) (v : Value) (B : AH), e = 0 ∧ v = .slice none 0 0 ∧ B = [] ∧ l = L.drop e ∧ e ≤ L.length ∧ OwnL limC 4 76 v B (L.take e) ∧ Dis B A :=
    ⟨0, L, _, [], rfl, rfl, rfl, rfl, by simp, OwnL.nil _ _ _, Dis.nil _⟩
  rw [show (4, some (Value.int .i64 0)) = (4, some (Value.int .i64 (e : Int))) by rw [he]; rfl]
  rw [show (3, some (Value.slice none 0 0)) = (3, some v) by rw [hv]]
  refine LoopA.at (A := B ++ A) (by subst hB; exact SubA.refl _) ?_
  clear he hv hB nuE fr
  induction l generalizing e v B with
  | nil =>
    obtain ⟨hn1, hn2⟩ := drop_nil hd hle
    have lt : ((e : Int) < (L.length : Int)) = False := eq_false (by omega)
    rw [hn2] at ho
    refine LoopA.intro (by kernel_rfl) ?_
    intro ν fr; have nuE := fr.nu
    simp (maxDischargeDepth := 16) only [argE_nil, argE_cons, ↓vmD, vmV, vmStd, Nat.reduceMul, ↓reduceIte, Nat.reduceAdd, Nat.reduceSub, Nat.reduceEqDiff, Nat.reduceLT, Nat.reduceLeDiff, reduceCtorEq, Int.reduceToNat, Int.reduceLT, Int.reduceLE, Int.reduceEq, Int.reduceNeg, Int.reduceBEq, Int.reduceBNe, String.reduceEq, forall_const, ↓vmDA, vmVA, ↓vmQA, vmR, vmRA, ↓vmSA, vmSV, tyS, nuE, SubA.skip, SubA.refl, fr.2, areDigits_v, panSum_v, rdigits_v, rsum_v, panLuhn_v, rLuhn_v, panCheck_v, rCheck_v, calIsDate_v, calDay_v, stLim_v, slIndexByte_v, indexByte_v, indexRune_v, containsRune_v, classOf_v, isWordByte_v, letter_v, digit_v, wordAt_v, rword_v, isName_v, risName_v, rIsDate_v, rDay_v, rAmount_v, awk_v, lt]
    exact ⟨_, B, rfl, ho, d, SubA.refl _⟩
  | cons x l ih =>
    obtain ⟨ha, hlt, hd', htk⟩ := drop_some hd
    have lt : ((e : Int) < (L.length : Int)) = True := eq_true (by omega)
    have we : IntKind.i64.wrap ((e : Int) + 1) = ((e + 1 : Nat) : Int) := by rw [w_i64 (by omega) (by omega)]; omega
    obtain ⟨bk, off, cs, ty, fr0, hp0, hbk, hcr, hcc⟩ := hL.at ha
    subst hp0
    have lbk := d.right _ _ hbk
    have b1 : (L.take e).length ≤ 1000 := by rw [List.length_take]; omega
    obtain ⟨q2, vcap, rfl, hvc, hvs⟩ := ho.read limC_len
    refine LoopA.intro (by kernel_rfl) ?_
    intro ν fr; have nuE := fr.nu
    simp (maxDischargeDepth := 16) only [argE_nil, argE_cons, ↓vmD, vmV, vmStd, Nat.reduceMul, ↓reduceIte, Nat.reduceAdd, Nat.reduceSub, Nat.reduceEqDiff, Nat.reduceLT, Nat.reduceLeDiff, reduceCtorEq, Int.reduceToNat, Int.reduceLT, Int.reduceLE, Int.reduceEq, Int.reduceNeg, Int.reduceBEq, Int.reduceBNe, String.reduceEq, forall_const, ↓vmDA, vmVA, ↓vmQA, vmR, vmRA, ↓vmSA, vmSV, tyS, nuE, SubA.skip, SubA.refl, fr.2, areDigits_v, panSum_v, rdigits_v, rsum_v, panLuhn_v, rLuhn_v, panCheck_v, rCheck_v, calIsDate_v, calDay_v, stLim_v, slIndexByte_v, indexByte_v, indexRune_v, containsRune_v, classOf_v, isWordByte_v, letter_v, digit_v, wordAt_v, rword_v, isName_v, risName_v, rIsDate_v, rDay_v, rAmount_v, awk_v, lt, lbk, hcr, limC, we, sc_rlim]
    have n0' := fr.2 0
    have hE1 : SubA A ((ν 0, Obj.cells (limC x).toArray 76) :: (B ++ A)) := SubA.fresh n0' d.right
    have hB1 : SubA B ((ν 0, Obj.cells (limC x).toArray 76) :: (B ++ A)) := SubA.fresh n0' (SubA.left B A)
    refine RunA.use ?_
    refine append_src (m := 1) (news := limC x) (B := B) slc33 zro76 rfl (by decide) ho hB1 (.inr ⟨ν 0, 0, rfl, by simp (maxDischargeDepth := 16) only [argE_nil, argE_cons, ↓vmD, vmV, vmStd, Nat.reduceMul, ↓reduceIte, Nat.reduceAdd, Nat.reduceSub, Nat.reduceEqDiff, Nat.reduceLT, Nat.reduceLeDiff, reduceCtorEq, Int.reduceToNat, Int.reduceLT, Int.reduceLE, Int.reduceEq, Int.reduceNeg, Int.reduceBEq, Int.reduceBNe, String.reduceEq, forall_const, ↓vmDA, vmVA, ↓vmQA, vmR, vmRA, ↓vmSA, vmSV, tyS, nuE, SubA.skip, SubA.refl, fr.2, areDigits_v, panSum_v, rdigits_v, rsum_v, panLuhn_v, rLuhn_v, panCheck_v, rCheck_v, calIsDate_v, calDay_v, stLim_v, slIndexByte_v, indexByte_v, indexRune_v, containsRune_v, classOf_v, isWordByte_v, letter_v, digit_v, wordAt_v, rword_v, isName_v, risName_v, rIsDate_v, rDay_v, rAmount_v, awk_v, limC]⟩) (by simp [limC, Value.oneCell']) (by simp only [maxLen]; omega) (by omega) ?_
    intro v' B' ho' hb'
    have dB' : Dis B' A := ap_dis hb' d hE1
    refine ⟨B' ++ A, SubA.app hE1, ?_⟩
    intro ν3 fr3
    have fr := fr3
    have nuE := fr.nu
    simp (maxDischargeDepth := 16) only [argE_nil, argE_cons, ↓vmD, vmV, vmStd, Nat.reduceMul, ↓reduceIte, Nat.reduceAdd, Nat.reduceSub, Nat.reduceEqDiff, Nat.reduceLT, Nat.reduceLeDiff, reduceCtorEq, Int.reduceToNat, Int.reduceLT, Int.reduceLE, Int.reduceEq, Int.reduceNeg, Int.reduceBEq, Int.reduceBNe, String.reduceEq, forall_const, ↓vmDA, vmVA, ↓vmQA, vmR, vmRA, ↓vmSA, vmSV, tyS, nuE, SubA.skip, SubA.refl, fr.2, areDigits_v, panSum_v, rdigits_v, rsum_v, panLuhn_v, rLuhn_v, panCheck_v, rCheck_v, calIsDate_v, calDay_v, stLim_v, slIndexByte_v, indexByte_v, indexRune_v, containsRune_v, classOf_v, isWordByte_v, letter_v, digit_v, wordAt_v, rword_v, isName_v, risName_v, rIsDate_v, rDay_v, rAmount_v, awk_v, we]
    exact LoopA.weak (ih (e + 1) v' B' hd' (by omega) (by
      rw [htk]
      unfold OwnL
      rw [List.length_append, List.flatMap_append]
      simpa using ho') dB') (by simp only [subE, get_cons, Nat.reduceEqDiff, ↓reduceIte, reduceCtorEq, Nat.reduceAdd, and_self, and_true]) (SubA.refl _)

theorem same_h (A : AH) (M : List Dec) (p1 p2 : Option Addr) (c1 c2 : Nat) (h1 : StR advC 5 A p1 M) (h2 : StR advC 5 A p2 M) (hl : M.length ≤ 1000) : CallA Try.prog 22 #[.slice p1 M.length c1, .slice p2 M.length c2] A (fun u_ A_ => u_ = .bool true ∧ SubA A A_) := by
  refine callA_of_denA ⟨Try.prog, 22, Try.f22, 26, [0, 1, 4, 5], [], [(6, .q false)], _⟩ (args := [_, _]) Try.func22 rfl (by kernel_rfl) Try.ntmps22 (by simp) (by kernel_rfl) ?_
  intro ν fr; have nuE := fr.nu
  simp (maxDischargeDepth := 16) only [argE_nil, argE_cons, ↓vmD, vmV, vmStd, Nat.reduceMul, ↓reduceIte, Nat.reduceAdd, Nat.reduceSub, Nat.reduceEqDiff, Nat.reduceLT, Nat.reduceLeDiff, reduceCtorEq, Int.reduceToNat, Int.reduceLT, Int.reduceLE, Int.reduceEq, Int.reduceNeg, Int.reduceBEq, Int.reduceBNe, String.reduceEq, forall_const, ↓vmDA, vmVA, ↓vmQA, vmR, vmRA, ↓vmSA, vmSV, tyS, nuE, SubA.skip, SubA.refl, fr.2, areDigits_v, panSum_v, rdigits_v, rsum_v, panLuhn_v, rLuhn_v, panCheck_v, rCheck_v, calIsDate_v, calDay_v, stLim_v, slIndexByte_v, indexByte_v, indexRune_v, containsRune_v, classOf_v, isWordByte_v, letter_v, digit_v, wordAt_v, rword_v, isName_v, risName_v, rIsDate_v, rDay_v, rAmount_v, awk_v]
  obtain ⟨e, l, he, hd, hle⟩ : ∃ (e : Nat) (l : List Dec), e = 0 ∧ l = M.drop e ∧ e ≤ M.length := ⟨0, M, rfl, rfl, by simp⟩
  rw [show (5, some (Value.int .i64 0)) = (5, some (Value.int .i64 (e : Int))) by rw [he]; rfl]
  clear he nuE fr
  induction l generalizing e with
  | nil =>
    obtain ⟨hn1, hn2⟩ := drop_nil hd hle
    have lt : ((e : Int) < (M.length : Int)) = False := eq_false (by omega)
    refine LoopA.intro (by kernel_rfl) ?_
    intro ν fr; have nuE := fr.nu
    simp (maxDischargeDepth := 16) only [argE_nil, argE_cons, ↓vmD, vmV, vmStd, Nat.reduceMul, ↓reduceIte, Nat.reduceAdd, Nat.reduceSub, Nat.reduceEqDiff, Nat.reduceLT, Nat.reduceLeDiff, reduceCtorEq, Int.reduceToNat, Int.reduceLT, Int.reduceLE, Int.reduceEq, Int.reduceNeg, Int.reduceBEq, Int.reduceBNe, String.reduceEq, forall_const, ↓vmDA, vmVA, ↓vmQA, vmR, vmRA, ↓vmSA, vmSV, tyS, nuE, SubA.skip, SubA.refl, fr.2, areDigits_v, panSum_v, rdigits_v, rsum_v, panLuhn_v, rLuhn_v, panCheck_v, rCheck_v, calIsDate_v, calDay_v, stLim_v, slIndexByte_v, indexByte_v, indexRune_v, containsRune_v, classOf_v, isWordByte_v, letter_v, digit_v, wordAt_v, rword_v, isName_v, risName_v, rIsDate_v, rDay_v, rAmount_v, awk_v, lt]
  | cons x l ih =>
    obtain ⟨ha, hlt, hd', _⟩ := drop_some hd
    have lt : ((e : Int) < (M.length : Int)) = True := eq_true (by omega)
    have we : IntKind.i64.wrap ((e : Int) + 1) = ((e + 1 : Nat) : Int) := by rw [w_i64 (by omega) (by omega)]; omega
    obtain ⟨b1, o1, cs1, t1, f1, e1, k1, r1, g1⟩ := h1.at ha
    obtain ⟨b2, o2, cs2, t2, f2, e2, k2, r2, g2⟩ := h2.at ha
    subst e1 e2
    refine LoopA.intro (by kernel_rfl) ?_
    intro ν fr; have nuE := fr.nu
    simp (maxDischargeDepth := 16) only [argE_nil, argE_cons, ↓vmD, vmV, vmStd, Nat.reduceMul, ↓reduceIte, Nat.reduceAdd, Nat.reduceSub, Nat.reduceEqDiff, Nat.reduceLT, Nat.reduceLeDiff, reduceCtorEq, Int.reduceToNat, Int.reduceLT, Int.reduceLE, Int.reduceEq, Int.reduceNeg, Int.reduceBEq, Int.reduceBNe, String.reduceEq, forall_const, ↓vmDA, vmVA, ↓vmQA, vmR, vmRA, ↓vmSA, vmSV, tyS, nuE, SubA.skip, SubA.refl, fr.2, areDigits_v, panSum_v, rdigits_v, rsum_v, panLuhn_v, rLuhn_v, panCheck_v, rCheck_v, calIsDate_v, calDay_v, stLim_v, slIndexByte_v, indexByte_v, indexRune_v, containsRune_v, classOf_v, isWordByte_v, letter_v, digit_v, wordAt_v, rword_v, isName_v, risName_v, rIsDate_v, rDay_v, rAmount_v, awk_v, lt, k1, k2, r1, r2, advC, we, BEq.rfl, bne_self_eq_false]
    exact LoopA.weak (ih (e + 1) hd' (by omega)) (by simp only [subE, get_cons, Nat.reduceEqDiff, ↓reduceIte, reduceCtorEq, Nat.reduceAdd, and_self, and_true]) (SubA.refl _)
theorem same_w (A : AH) (M : List Dec) (p1 p2 : Option Addr) (c1 c2 : Nat) (h1 : StR advC 5 A p1 M) (h2 : StR advC 5 A p2 M) (hl : M.length ≤ 1000) (B_ : AH) (hB_ : SubA A B_) : valA Try.prog 22 #[.slice p1 M.length c1, .slice p2 M.length c2] B_ = some (.bool true) := valA_eq (pureA_at (by kernel_rfl) (same_h A M p1 p2 c1 c2 h1 h2 hl) hB_)
theorem same_v (A : AH) (M : List Dec) (p1 p2 : Option Addr) (c1 c2 : Nat) (h1 : StR advC 5 A p1 M) (h2 : StR advC 5 A p2 M) (hl : M.length ≤ 1000) : valA Try.prog 22 #[.slice p1 M.length c1, .slice p2 M.length c2] A = some (.bool true) := valA_eq (pureA_at (by kernel_rfl) (same_h A M p1 p2 c1 c2 h1 h2 hl) (SubA.refl _))
end Go.Proofs.Ytmjkjpjjckcihaa
