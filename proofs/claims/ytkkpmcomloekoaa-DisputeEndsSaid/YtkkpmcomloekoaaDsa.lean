/-
Disputes: the law of the amounts.
Conditions: none.
-/
import Derived.Test.YtkkpmcomloekoaaDsd
namespace Go.Proofs.Ytkkpmcomloekoaa
open Go.Vm
set_option linter.unusedSimpArgs false
set_option linter.unusedVariables false
set_option maxHeartbeats 4000000
set_option maxRecDepth 20000
theorem small_n (A : AH) (L : List Rs) (p : Option Addr) (cap : Nat) (hL : RsR A p L) (M : List DoT) (q : Option Addr) (qcap : Nat) (hM : DoR A q M) : CallA Try.prog 11 #[.slice p L.length cap, .slice q M.length qcap] A (fun u D => ∃ v B, u = v ∧ (∃ b, v = .bool b ∧ (b = true → L.length ≤ 40 ∧ M.length ≤ 80)) ∧ Dis B A ∧ SubA (B ++ A) D) :=
  (small_h A L p cap hL M q qcap hM).mono fun u D ⟨h1, h2⟩ => ⟨u, [], rfl, h2, Dis.nil _, h1⟩
/-- One call of the law, on the data. -/
def runX (R : List Rn) (F : List Fd) (x : DoT) : List Fd := if x.kd % 3 = 2 then (expX R F x.dt).2 else (doX R F x).2
theorem run_ok {R : List Rn} {F : List Fd} (hF : FdsOk F) (x : DoT) : FdsOk (runX R F x) := by
  unfold runX doX
  split
  · exact exp_ok hF _
  · split
    · exact open_ok hF _ _ _ _ _ _
    · exact step_ok hF _ _ _ _
theorem cons_back {B X : AH} {x : Nat} {o : Obj} (h : Vm.look B x = none) : SubA (B ++ ((x, o) :: X)) ((x, o) :: (B ++ X)) := fun b u hl => by
  rw [look_append] at hl
  simp only [Vm.look]
  by_cases e : x = b
  · subst e
    rw [h] at hl
    simp only [Vm.look, if_true] at hl
    rw [if_pos rfl]; exact hl
  · rw [if_neg e, look_append]
    cases hb : Vm.look B b with
    | some w => rw [hb] at hl; exact hl
    | none => rw [hb] at hl; simp only [Vm.look, e, if_false] at hl; exact hl
theorem dis_cons {B X : AH} {x : Nat} {o : Obj} (h : Vm.look B x = none) (d : Dis B X) : Dis B ((x, o) :: X) := fun b hb => by
  simp only [Vm.look] at hb
  by_cases e : x = b
  · subst e; exact h
  · rw [if_neg e] at hb; exact d b hb
theorem amountsLaw_h (A : AH) (L : List Rs) (p : Option Addr) (cap : Nat) (hL : RsR A p L) (hl : L.length ≤ cap ∧ cap ≤ 9223372036854775807) (M : List DoT) (q : Option Addr) (qcap : Nat) (hM : DoR A q M) : CallA Try.prog 4 #[.slice p L.length cap, .slice q M.length qcap] A (fun u_ A_ => u_ = .bool true ∧ SubA A A_) := by
  refine callA_of_denA ⟨Try.prog, 4, Try.f4, 123, [0, 1, 4, 5, 6, 7, 8, 9, 10], [11, 12, 15, 14], [(16, .q false)], _⟩ (args := [_, _]) Try.func4 rfl (by kernel_rfl) Try.ntmps4 (by simp) (by kernel_rfl) ?_
  intro ν fr; have nuE := fr.nu
  simp (maxDischargeDepth := 16) only [argE_nil, argE_cons, ↓vmD, vmV, vmStd, Nat.reduceMul, ↓reduceIte, Nat.reduceAdd, Nat.reduceSub, Nat.reduceEqDiff, Nat.reduceLT, Nat.reduceLeDiff, reduceCtorEq, Int.reduceToNat, Int.reduceLT, Int.reduceLE, Int.reduceEq, Int.reduceNeg, Int.reduceBEq, Int.reduceBNe, String.reduceEq, forall_const, ↓vmDA, vmVA, ↓vmQA, vmR, vmRA, ↓vmSA, vmSV, tyS, nuE, SubA.skip, SubA.refl, fr.2, slIndexByte_v, indexByte_v, indexRune_v, containsRune_v, classOf_v, isWordByte_v, wordAt_v, isName_v, possible_v, days_v, due_v, evName_v, evCheck_v, dNext_v, rNext_v, dTurn_v, rTurn_v, recId_v, moneyCur_v, inTotal_v, exCard_v, recCheck_v, dspId_v, awk46_v]
  refine CallA.newX (small_n A L p cap hL M q qcap hM) (SubA.refl A) ?_
  rintro v B ⟨b, rfl, hb⟩ hd
  refine ⟨A, hd.right, ?_⟩
  intro ν fr; have nuE := fr.nu
  cases b with
  | false => simp (maxDischargeDepth := 16) only [argE_nil, argE_cons, ↓vmD, vmV, vmStd, Nat.reduceMul, ↓reduceIte, Nat.reduceAdd, Nat.reduceSub, Nat.reduceEqDiff, Nat.reduceLT, Nat.reduceLeDiff, reduceCtorEq, Int.reduceToNat, Int.reduceLT, Int.reduceLE, Int.reduceEq, Int.reduceNeg, Int.reduceBEq, Int.reduceBNe, String.reduceEq, forall_const, ↓vmDA, vmVA, ↓vmQA, vmR, vmRA, ↓vmSA, vmSV, tyS, nuE, SubA.skip, SubA.refl, fr.2, slIndexByte_v, indexByte_v, indexRune_v, containsRune_v, classOf_v, isWordByte_v, wordAt_v, isName_v, possible_v, days_v, due_v, evName_v, evCheck_v, dNext_v, rNext_v, dTurn_v, rTurn_v, recId_v, moneyCur_v, inTotal_v, exCard_v, recCheck_v, dspId_v, awk46_v]
  | true =>
  obtain ⟨h40, h80⟩ := hb rfl
  simp (maxDischargeDepth := 16) only [argE_nil, argE_cons, ↓vmD, vmV, vmStd, Nat.reduceMul, ↓reduceIte, Nat.reduceAdd, Nat.reduceSub, Nat.reduceEqDiff, Nat.reduceLT, Nat.reduceLeDiff, reduceCtorEq, Int.reduceToNat, Int.reduceLT, Int.reduceLE, Int.reduceEq, Int.reduceNeg, Int.reduceBEq, Int.reduceBNe, String.reduceEq, forall_const, ↓vmDA, vmVA, ↓vmQA, vmR, vmRA, ↓vmSA, vmSV, tyS, nuE, SubA.skip, SubA.refl, fr.2, slIndexByte_v, indexByte_v, indexRune_v, containsRune_v, classOf_v, isWordByte_v, wordAt_v, isName_v, possible_v, days_v, due_v, evName_v, evCheck_v, dNext_v, rNext_v, dTurn_v, rTurn_v, recId_v, moneyCur_v, inTotal_v, exCard_v, recCheck_v, dspId_v, awk46_v]
  clear nuE fr hd
  refine CallA.newX (new_n A L p cap hL hl) (SubA.refl A) ?_
  rintro v E h hd
  rcases h with ⟨h1, rfl⟩ | ⟨_, db, R, rfl, hE0, hR⟩
  · refine ⟨A, hd.right, ?_⟩
    intro ν fr; have nuE := fr.nu
    simp (maxDischargeDepth := 16) only [argE_nil, argE_cons, ↓vmD, vmV, vmStd, Nat.reduceMul, ↓reduceIte, Nat.reduceAdd, Nat.reduceSub, Nat.reduceEqDiff, Nat.reduceLT, Nat.reduceLeDiff, reduceCtorEq, Int.reduceToNat, Int.reduceLT, Int.reduceLE, Int.reduceEq, Int.reduceNeg, Int.reduceBEq, Int.reduceBNe, String.reduceEq, forall_const, ↓vmDA, vmVA, ↓vmQA, vmR, vmRA, ↓vmSA, vmSV, tyS, nuE, SubA.skip, SubA.refl, fr.2, slIndexByte_v, indexByte_v, indexRune_v, containsRune_v, classOf_v, isWordByte_v, wordAt_v, isName_v, possible_v, days_v, due_v, evName_v, evCheck_v, dNext_v, rNext_v, dTurn_v, rTurn_v, recId_v, moneyCur_v, inTotal_v, exCard_v, recCheck_v, dspId_v, awk46_v, h1]
  refine ⟨E ++ A, SubA.refl _, ?_⟩
  intro ν fr; have nuE := fr.nu
  simp (maxDischargeDepth := 16) only [argE_nil, argE_cons, ↓vmD, vmV, vmStd, Nat.reduceMul, ↓reduceIte, Nat.reduceAdd, Nat.reduceSub, Nat.reduceEqDiff, Nat.reduceLT, Nat.reduceLeDiff, reduceCtorEq, Int.reduceToNat, Int.reduceLT, Int.reduceLE, Int.reduceEq, Int.reduceNeg, Int.reduceBEq, Int.reduceBNe, String.reduceEq, forall_const, ↓vmDA, vmVA, ↓vmQA, vmR, vmRA, ↓vmSA, vmSV, tyS, nuE, SubA.skip, SubA.refl, fr.2, slIndexByte_v, indexByte_v, indexRune_v, containsRune_v, classOf_v, isWordByte_v, wordAt_v, isName_v, possible_v, days_v, due_v, evName_v, evCheck_v, dNext_v, rNext_v, dTurn_v, rTurn_v, recId_v, moneyCur_v, inTotal_v, exCard_v, recCheck_v, dspId_v, awk46_v]
  have hF0 : FdsOk (([] : List Fo).map Fo.d) := ⟨(fun f hf => by cases hf), by simp, by simp⟩
  obtain ⟨e, l, fv, F, he, hdl, hle, hE, hF⟩ : ∃ (e : Nat) (l : List DoT) (fv : Value) (F : List Fo), e = 0 ∧ l = M.drop e ∧ e ≤ M.length ∧ DkP E db fv R F ∧ FdsOk (F.map Fo.d) := ⟨0, M, _, [], rfl, rfl, by omega, hE0, hF0⟩
  rw [show (7, some (Value.int .i64 0)) = (7, some (Value.int .i64 (e : Int))) by rw [he]; rfl]
  clear he nuE fr hF0 hE0
  induction l generalizing e E fv F with
  | nil =>
    obtain ⟨hn1, hn2⟩ := drop_nil hdl hle
    have lt : ((e : Int) < (M.length : Int)) = False := eq_false (by omega)
    refine LoopA.intro (by kernel_rfl) ?_
    intro ν fr; have nuE := fr.nu
    simp (maxDischargeDepth := 16) only [argE_nil, argE_cons, ↓vmD, vmV, vmStd, Nat.reduceMul, ↓reduceIte, Nat.reduceAdd, Nat.reduceSub, Nat.reduceEqDiff, Nat.reduceLT, Nat.reduceLeDiff, reduceCtorEq, Int.reduceToNat, Int.reduceLT, Int.reduceLE, Int.reduceEq, Int.reduceNeg, Int.reduceBEq, Int.reduceBNe, String.reduceEq, forall_const, ↓vmDA, vmVA, ↓vmQA, vmR, vmRA, ↓vmSA, vmSV, tyS, nuE, SubA.skip, SubA.refl, fr.2, slIndexByte_v, indexByte_v, indexRune_v, containsRune_v, classOf_v, isWordByte_v, wordAt_v, isName_v, possible_v, days_v, due_v, evName_v, evCheck_v, dNext_v, rNext_v, dTurn_v, rTurn_v, recId_v, moneyCur_v, inTotal_v, exCard_v, recCheck_v, dspId_v, awk46_v, lt]
    exact hd.right
  | cons x l ih =>
    obtain ⟨ha, hlt, hd', htk⟩ := drop_some hdl
    have lt : ((e : Int) < (M.length : Int)) = True := eq_true (by omega)
    have we : IntKind.i64.wrap ((e : Int) + 1) = ((e + 1 : Nat) : Int) := by rw [w_i64 (by omega) (by omega)]; omega
    obtain ⟨bk, off, cs, ty, fr0, hp0, hbk, hcr, hcc⟩ := hM.1.at ha
    obtain ⟨hk255, hI, hil⟩ := hM.2 x (List.mem_of_getElem? ha)
    have li : ((e : Int) < 0) = False := eq_false (by omega)
    simp only [doC] at hcr
    subst hp0
    have hbk2 := hd.right _ _ hbk
    have hlen := hF.2.1
    have b1 := dspF_le x.r.id _ hF.1
    have hrun := run_ok (R := R.map Rs.d) hF x
    have km : ((x.kd : Int)).tmod 3 = ((x.kd % 3 : Nat) : Int) := by rw [Int.tmod_eq_emod_of_nonneg (by omega)]; omega
    have kw : IntKind.u8.wrap (((x.kd % 3 : Nat) : Int)) = ((x.kd % 3 : Nat) : Int) := w_u8 (by omega) (by omega)
    refine LoopA.intro (by kernel_rfl) ?_
    intro ν fr; have nuE := fr.nu
    have f0 := fr.2 0
    have dv := disp_w E db fv R F hE hF x.r.id ((ν 0, (Obj.cells #[.int .u8 (x.kd : Int), .string (bs x.id), .string (bs x.code), .int .i64 x.r.kd, .string (bs x.r.id), .string (bs x.r.au), .string (bs x.r.aq), .string (bs x.r.is), .string (bs x.r.me), .string (bs x.r.ca), .int .i64 x.r.am, .string (bs x.r.cu), .int .i64 x.r.da, .int .i64 x.r.ct, .bool x.r.fi, .int .i64 x.am, .int .i64 x.ev, .int .i64 x.dt, .slice x.ip x.its.length x.ic] 40)) :: (E ++ A)) (SubA.fresh f0 (SubA.left E A))
    by_cases h2 : x.kd % 3 = 2
    · have h2' : (((x.kd % 3 : Nat) : Int) = 2) = True := eq_true (by omega)
      simp (maxDischargeDepth := 16) only [argE_nil, argE_cons, ↓vmD, vmV, vmStd, Nat.reduceMul, ↓reduceIte, Nat.reduceAdd, Nat.reduceSub, Nat.reduceEqDiff, Nat.reduceLT, Nat.reduceLeDiff, reduceCtorEq, Int.reduceToNat, Int.reduceLT, Int.reduceLE, Int.reduceEq, Int.reduceNeg, Int.reduceBEq, Int.reduceBNe, String.reduceEq, forall_const, ↓vmDA, vmVA, ↓vmQA, vmR, vmRA, ↓vmSA, vmSV, tyS, nuE, SubA.skip, SubA.refl, fr.2, slIndexByte_v, indexByte_v, indexRune_v, containsRune_v, classOf_v, isWordByte_v, wordAt_v, isName_v, possible_v, days_v, due_v, evName_v, evCheck_v, dNext_v, rNext_v, dTurn_v, rTurn_v, recId_v, moneyCur_v, inTotal_v, exCard_v, recCheck_v, dspId_v, awk46_v, lt, li, hbk2, hcr, dv, km, kw, h2']
      have dst_ : True := (by simp [nuE]); generalize ν 0 = n0 at dst_  f0 ⊢
      clear nuE fr dst_ dv
      have fE : Vm.look E n0 = none := (SubA.left E A).none f0
      refine exp_use (expP_h E ((n0, (Obj.cells #[.int .u8 (x.kd : Int), .string (bs x.id), .string (bs x.code), .int .i64 x.r.kd, .string (bs x.r.id), .string (bs x.r.au), .string (bs x.r.aq), .string (bs x.r.is), .string (bs x.r.me), .string (bs x.r.ca), .int .i64 x.r.am, .string (bs x.r.cu), .int .i64 x.r.da, .int .i64 x.r.ct, .bool x.r.fi, .int .i64 x.am, .int .i64 x.ev, .int .i64 x.dt, .slice x.ip x.its.length x.ic] 40)) :: A) db fv R F hE (dis_cons fE hd) hF x.dt) (cons_back fE) ?_
      intro u B E' F' g0 g1 g2 g3 g4
      have hr : runX (R.map Rs.d) (F.map Fo.d) x = (expX (R.map Rs.d) (F.map Fo.d) x.dt).2 := if_pos h2
      rw [← hr] at g2
      have hF' : FdsOk (F'.map Fo.d) := by rw [g2]; exact hrun
      have hle2 := exp_amt (R := R.map Rs.d) hF x.dt x.r.id
      rw [← hr, ← g2] at hle2
      have dv2 := disp_w E' db fv R F' g1 hF' x.r.id (E' ++ (B ++ ((n0, (Obj.cells #[.int .u8 (x.kd : Int), .string (bs x.id), .string (bs x.code), .int .i64 x.r.kd, .string (bs x.r.id), .string (bs x.r.au), .string (bs x.r.aq), .string (bs x.r.is), .string (bs x.r.me), .string (bs x.r.ca), .int .i64 x.r.am, .string (bs x.r.cu), .int .i64 x.r.da, .int .i64 x.r.ct, .bool x.r.fi, .int .i64 x.am, .int .i64 x.ev, .int .i64 x.dt, .slice x.ip x.its.length x.ic] 40)) :: A))) (SubA.left _ _)
      have hn : Vm.look (E' ++ (B ++ ((n0, (Obj.cells #[.int .u8 (x.kd : Int), .string (bs x.id), .string (bs x.code), .int .i64 x.r.kd, .string (bs x.r.id), .string (bs x.r.au), .string (bs x.r.aq), .string (bs x.r.is), .string (bs x.r.me), .string (bs x.r.ca), .int .i64 x.r.am, .string (bs x.r.cu), .int .i64 x.r.da, .int .i64 x.r.ct, .bool x.r.fi, .int .i64 x.am, .int .i64 x.ev, .int .i64 x.dt, .slice x.ip x.its.length x.ic] 40)) :: A))) n0 = some (Obj.cells #[.int .u8 (x.kd : Int), .string (bs x.id), .string (bs x.code), .int .i64 x.r.kd, .string (bs x.r.id), .string (bs x.r.au), .string (bs x.r.aq), .string (bs x.r.is), .string (bs x.r.me), .string (bs x.r.ca), .int .i64 x.r.am, .string (bs x.r.cu), .int .i64 x.r.da, .int .i64 x.r.ct, .bool x.r.fi, .int .i64 x.am, .int .i64 x.ev, .int .i64 x.dt, .slice x.ip x.its.length x.ic] 40) := g3.right _ _ (g4.right _ _ (by simp [Vm.look]))
      have k0 : (((x.kd % 3 : Nat) : Int) = 0) = False := eq_false (by omega)
      have hgt : (dspF x.r.id (F.map Fo.d) < dspF x.r.id (F'.map Fo.d)) = False := eq_false (by omega)
      have hEA : Dis E' A := Dis.subr g3 (SubA.trans (SubA.skip (hd.right.none f0) (SubA.refl A)) g4.right)
      intro ν fr; have nuE := fr.nu
      simp (maxDischargeDepth := 16) only [argE_nil, argE_cons, ↓vmD, vmV, vmStd, Nat.reduceMul, ↓reduceIte, Nat.reduceAdd, Nat.reduceSub, Nat.reduceEqDiff, Nat.reduceLT, Nat.reduceLeDiff, reduceCtorEq, Int.reduceToNat, Int.reduceLT, Int.reduceLE, Int.reduceEq, Int.reduceNeg, Int.reduceBEq, Int.reduceBNe, String.reduceEq, forall_const, ↓vmDA, vmVA, ↓vmQA, vmR, vmRA, ↓vmSA, vmSV, tyS, nuE, SubA.skip, SubA.refl, fr.2, slIndexByte_v, indexByte_v, indexRune_v, containsRune_v, classOf_v, isWordByte_v, wordAt_v, isName_v, possible_v, days_v, due_v, evName_v, evCheck_v, dNext_v, rNext_v, dTurn_v, rTurn_v, recId_v, moneyCur_v, inTotal_v, exCard_v, recCheck_v, dspId_v, awk46_v, hn, km, kw, k0, dv2, hgt, we]
      refine LoopA.at (A := E' ++ A) (SubA.app (SubA.trans (SubA.skip (hd.right.none f0) (SubA.refl A)) g4.right)) ?_
      exact LoopA.weak (ih (E := E') (e := e + 1) (fv := fv) (F := F') hEA hd' (by omega) g1 hF') (by simp only [subE, get_cons, Nat.reduceEqDiff, ↓reduceIte, reduceCtorEq, Nat.reduceAdd, and_self, and_true]) (SubA.refl _)
    · have h2' : (((x.kd % 3 : Nat) : Int) = 2) = False := eq_false (by omega)
      simp (maxDischargeDepth := 16) only [argE_nil, argE_cons, ↓vmD, vmV, vmStd, Nat.reduceMul, ↓reduceIte, Nat.reduceAdd, Nat.reduceSub, Nat.reduceEqDiff, Nat.reduceLT, Nat.reduceLeDiff, reduceCtorEq, Int.reduceToNat, Int.reduceLT, Int.reduceLE, Int.reduceEq, Int.reduceNeg, Int.reduceBEq, Int.reduceBNe, String.reduceEq, forall_const, ↓vmDA, vmVA, ↓vmQA, vmR, vmRA, ↓vmSA, vmSV, tyS, nuE, SubA.skip, SubA.refl, fr.2, slIndexByte_v, indexByte_v, indexRune_v, containsRune_v, classOf_v, isWordByte_v, wordAt_v, isName_v, possible_v, days_v, due_v, evName_v, evCheck_v, dNext_v, rNext_v, dTurn_v, rTurn_v, recId_v, moneyCur_v, inTotal_v, exCard_v, recCheck_v, dspId_v, awk46_v, lt, li, hbk2, hcr, dv, km, kw, h2']
      have dst_ : True := (by simp [nuE]); generalize ν 0 = n0 at dst_  f0 ⊢
      clear nuE fr dst_ dv
      have fE : Vm.look E n0 = none := (SubA.left E A).none f0
      refine open_use (callP_h E ((n0, (Obj.cells #[.int .u8 (x.kd : Int), .string (bs x.id), .string (bs x.code), .int .i64 x.r.kd, .string (bs x.r.id), .string (bs x.r.au), .string (bs x.r.aq), .string (bs x.r.is), .string (bs x.r.me), .string (bs x.r.ca), .int .i64 x.r.am, .string (bs x.r.cu), .int .i64 x.r.da, .int .i64 x.r.ct, .bool x.r.fi, .int .i64 x.am, .int .i64 x.ev, .int .i64 x.dt, .slice x.ip x.its.length x.ic] 40)) :: A) db fv R F hE (dis_cons fE hd) hF x hk255 (hI.mono (SubA.skip (hd.right.none f0) (SubA.refl A)))) (cons_back fE) ?_
      intro E' fv' F' g1 g2 g3
      have hr : runX (R.map Rs.d) (F.map Fo.d) x = (doX (R.map Rs.d) (F.map Fo.d) x).2 := if_neg h2
      have hF' : FdsOk (F'.map Fo.d) := by rw [g2, ← hr]; exact hrun
      have dv2 := disp_w E' db fv' R F' g1 hF' x.r.id (E' ++ ((n0, (Obj.cells #[.int .u8 (x.kd : Int), .string (bs x.id), .string (bs x.code), .int .i64 x.r.kd, .string (bs x.r.id), .string (bs x.r.au), .string (bs x.r.aq), .string (bs x.r.is), .string (bs x.r.me), .string (bs x.r.ca), .int .i64 x.r.am, .string (bs x.r.cu), .int .i64 x.r.da, .int .i64 x.r.ct, .bool x.r.fi, .int .i64 x.am, .int .i64 x.ev, .int .i64 x.dt, .slice x.ip x.its.length x.ic] 40)) :: A)) (SubA.left _ _)
      have hn : Vm.look (E' ++ ((n0, (Obj.cells #[.int .u8 (x.kd : Int), .string (bs x.id), .string (bs x.code), .int .i64 x.r.kd, .string (bs x.r.id), .string (bs x.r.au), .string (bs x.r.aq), .string (bs x.r.is), .string (bs x.r.me), .string (bs x.r.ca), .int .i64 x.r.am, .string (bs x.r.cu), .int .i64 x.r.da, .int .i64 x.r.ct, .bool x.r.fi, .int .i64 x.am, .int .i64 x.ev, .int .i64 x.dt, .slice x.ip x.its.length x.ic] 40)) :: A)) n0 = some (Obj.cells #[.int .u8 (x.kd : Int), .string (bs x.id), .string (bs x.code), .int .i64 x.r.kd, .string (bs x.r.id), .string (bs x.r.au), .string (bs x.r.aq), .string (bs x.r.is), .string (bs x.r.me), .string (bs x.r.ca), .int .i64 x.r.am, .string (bs x.r.cu), .int .i64 x.r.da, .int .i64 x.r.ct, .bool x.r.fi, .int .i64 x.am, .int .i64 x.ev, .int .i64 x.dt, .slice x.ip x.its.length x.ic] 40) := g3.right _ _ (by simp [Vm.look])
      have hEA : Dis E' A := Dis.subr g3 (SubA.skip (hd.right.none f0) (SubA.refl A))
      have fin : SubA (E' ++ A) (E' ++ ((n0, (Obj.cells #[.int .u8 (x.kd : Int), .string (bs x.id), .string (bs x.code), .int .i64 x.r.kd, .string (bs x.r.id), .string (bs x.r.au), .string (bs x.r.aq), .string (bs x.r.is), .string (bs x.r.me), .string (bs x.r.ca), .int .i64 x.r.am, .string (bs x.r.cu), .int .i64 x.r.da, .int .i64 x.r.ct, .bool x.r.fi, .int .i64 x.am, .int .i64 x.ev, .int .i64 x.dt, .slice x.ip x.its.length x.ic] 40)) :: A)) := SubA.app (SubA.skip (hd.right.none f0) (SubA.refl A))
      intro ν fr; have nuE := fr.nu
      by_cases h0 : x.kd % 3 = 0
      · have k0 : (((x.kd % 3 : Nat) : Int) = 0) = True := eq_true (by omega)
        have hdx : doX (R.map Rs.d) (F.map Fo.d) x = openX (R.map Rs.d) (F.map Fo.d) x.id x.r x.code x.am x.dt x.its := if_pos h0
        obtain ⟨o1, o2⟩ := open_amt (R := R.map Rs.d) hF x.id x.r x.code x.am x.dt x.its
        rw [← hdx] at o1 o2
        by_cases he : (doX (R.map Rs.d) (F.map Fo.d) x).1 = 0
        · obtain ⟨s1, s2, s3, s4⟩ := o2 he
          rw [g2, s1] at dv2
          have ws : IntKind.i64.wrap (dspF x.r.id (F.map Fo.d) + x.am) = dspF x.r.id (F.map Fo.d) + x.am := w_i64 (by omega) (by omega)
          have hne : (dspF x.r.id (F.map Fo.d) + x.am = dspF x.r.id (F.map Fo.d)) = False := eq_false (by omega)
          have hng : (x.r.am < dspF x.r.id (F.map Fo.d) + x.am) = False := eq_false (by omega)
          simp (maxDischargeDepth := 16) only [argE_nil, argE_cons, ↓vmD, vmV, vmStd, Nat.reduceMul, ↓reduceIte, Nat.reduceAdd, Nat.reduceSub, Nat.reduceEqDiff, Nat.reduceLT, Nat.reduceLeDiff, reduceCtorEq, Int.reduceToNat, Int.reduceLT, Int.reduceLE, Int.reduceEq, Int.reduceNeg, Int.reduceBEq, Int.reduceBNe, String.reduceEq, forall_const, ↓vmDA, vmVA, ↓vmQA, vmR, vmRA, ↓vmSA, vmSV, tyS, nuE, SubA.skip, SubA.refl, fr.2, slIndexByte_v, indexByte_v, indexRune_v, containsRune_v, classOf_v, isWordByte_v, wordAt_v, isName_v, possible_v, days_v, due_v, evName_v, evCheck_v, dNext_v, rNext_v, dTurn_v, rTurn_v, recId_v, moneyCur_v, inTotal_v, exCard_v, recCheck_v, dspId_v, awk46_v, hn, km, kw, h2', k0, dv2, he, ws, hne, hng, we]
          refine LoopA.at fin ?_
          exact LoopA.weak (ih (E := E') (e := e + 1) (fv := fv') (F := F') hEA hd' (by omega) g1 hF') (by simp only [subE, get_cons, Nat.reduceEqDiff, ↓reduceIte, reduceCtorEq, Nat.reduceAdd, and_self, and_true]) (SubA.refl _)
        · rw [g2, o1 he] at dv2
          simp (maxDischargeDepth := 16) only [argE_nil, argE_cons, ↓vmD, vmV, vmStd, Nat.reduceMul, ↓reduceIte, Nat.reduceAdd, Nat.reduceSub, Nat.reduceEqDiff, Nat.reduceLT, Nat.reduceLeDiff, reduceCtorEq, Int.reduceToNat, Int.reduceLT, Int.reduceLE, Int.reduceEq, Int.reduceNeg, Int.reduceBEq, Int.reduceBNe, String.reduceEq, forall_const, ↓vmDA, vmVA, ↓vmQA, vmR, vmRA, ↓vmSA, vmSV, tyS, nuE, SubA.skip, SubA.refl, fr.2, slIndexByte_v, indexByte_v, indexRune_v, containsRune_v, classOf_v, isWordByte_v, wordAt_v, isName_v, possible_v, days_v, due_v, evName_v, evCheck_v, dNext_v, rNext_v, dTurn_v, rTurn_v, recId_v, moneyCur_v, inTotal_v, exCard_v, recCheck_v, dspId_v, awk46_v, hn, km, kw, h2', k0, dv2, he, we]
          refine LoopA.at fin ?_
          exact LoopA.weak (ih (E := E') (e := e + 1) (fv := fv') (F := F') hEA hd' (by omega) g1 hF') (by simp only [subE, get_cons, Nat.reduceEqDiff, ↓reduceIte, reduceCtorEq, Nat.reduceAdd, and_self, and_true]) (SubA.refl _)
      · have k0 : (((x.kd % 3 : Nat) : Int) = 0) = False := eq_false (by omega)
        have hdx : doX (R.map Rs.d) (F.map Fo.d) x = stepX (R.map Rs.d) (F.map Fo.d) x.id x.ev x.dt x.its := if_neg h0
        obtain ⟨o1, o2⟩ := step_amt (R := R.map Rs.d) hF x.id x.ev x.dt x.its x.r.id
        rw [← hdx] at o1 o2
        rw [← g2] at o1 o2
        have hgt : (dspF x.r.id (F.map Fo.d) < dspF x.r.id (F'.map Fo.d)) = False := eq_false (by omega)
        have hcd : ((doX (R.map Rs.d) (F.map Fo.d) x).1 = 0 ∨ dspF x.r.id (F'.map Fo.d) = dspF x.r.id (F.map Fo.d)) := by
          by_cases he : (doX (R.map Rs.d) (F.map Fo.d) x).1 = 0
          · exact .inl he
          · exact .inr (o2 he)
        by_cases he : (doX (R.map Rs.d) (F.map Fo.d) x).1 = 0
        · simp (maxDischargeDepth := 16) only [argE_nil, argE_cons, ↓vmD, vmV, vmStd, Nat.reduceMul, ↓reduceIte, Nat.reduceAdd, Nat.reduceSub, Nat.reduceEqDiff, Nat.reduceLT, Nat.reduceLeDiff, reduceCtorEq, Int.reduceToNat, Int.reduceLT, Int.reduceLE, Int.reduceEq, Int.reduceNeg, Int.reduceBEq, Int.reduceBNe, String.reduceEq, forall_const, ↓vmDA, vmVA, ↓vmQA, vmR, vmRA, ↓vmSA, vmSV, tyS, nuE, SubA.skip, SubA.refl, fr.2, slIndexByte_v, indexByte_v, indexRune_v, containsRune_v, classOf_v, isWordByte_v, wordAt_v, isName_v, possible_v, days_v, due_v, evName_v, evCheck_v, dNext_v, rNext_v, dTurn_v, rTurn_v, recId_v, moneyCur_v, inTotal_v, exCard_v, recCheck_v, dspId_v, awk46_v, hn, km, kw, h2', k0, dv2, he, hgt, we]
          refine LoopA.at fin ?_
          exact LoopA.weak (ih (E := E') (e := e + 1) (fv := fv') (F := F') hEA hd' (by omega) g1 hF') (by simp only [subE, get_cons, Nat.reduceEqDiff, ↓reduceIte, reduceCtorEq, Nat.reduceAdd, and_self, and_true]) (SubA.refl _)
        · rw [o2 he] at dv2
          simp (maxDischargeDepth := 16) only [argE_nil, argE_cons, ↓vmD, vmV, vmStd, Nat.reduceMul, ↓reduceIte, Nat.reduceAdd, Nat.reduceSub, Nat.reduceEqDiff, Nat.reduceLT, Nat.reduceLeDiff, reduceCtorEq, Int.reduceToNat, Int.reduceLT, Int.reduceLE, Int.reduceEq, Int.reduceNeg, Int.reduceBEq, Int.reduceBNe, String.reduceEq, forall_const, ↓vmDA, vmVA, ↓vmQA, vmR, vmRA, ↓vmSA, vmSV, tyS, nuE, SubA.skip, SubA.refl, fr.2, slIndexByte_v, indexByte_v, indexRune_v, containsRune_v, classOf_v, isWordByte_v, wordAt_v, isName_v, possible_v, days_v, due_v, evName_v, evCheck_v, dNext_v, rNext_v, dTurn_v, rTurn_v, recId_v, moneyCur_v, inTotal_v, exCard_v, recCheck_v, dspId_v, awk46_v, hn, km, kw, h2', k0, dv2, he, we]
          refine LoopA.at fin ?_
          exact LoopA.weak (ih (E := E') (e := e + 1) (fv := fv') (F := F') hEA hd' (by omega) g1 hF') (by simp only [subE, get_cons, Nat.reduceEqDiff, ↓reduceIte, reduceCtorEq, Nat.reduceAdd, and_self, and_true]) (SubA.refl _)
theorem amountsLaw_w (A : AH) (L : List Rs) (p : Option Addr) (cap : Nat) (hL : RsR A p L) (hl : L.length ≤ cap ∧ cap ≤ 9223372036854775807) (M : List DoT) (q : Option Addr) (qcap : Nat) (hM : DoR A q M) (B_ : AH) (hB_ : SubA A B_) : valA Try.prog 4 #[.slice p L.length cap, .slice q M.length qcap] B_ = some (.bool true) := valA_eq (pureA_at (by kernel_rfl) (amountsLaw_h A L p cap hL hl M q qcap hM) hB_)
theorem amountsLaw_v (A : AH) (L : List Rs) (p : Option Addr) (cap : Nat) (hL : RsR A p L) (hl : L.length ≤ cap ∧ cap ≤ 9223372036854775807) (M : List DoT) (q : Option Addr) (qcap : Nat) (hM : DoR A q M) : valA Try.prog 4 #[.slice p L.length cap, .slice q M.length qcap] A = some (.bool true) := valA_eq (pureA_at (by kernel_rfl) (amountsLaw_h A L p cap hL hl M q qcap hM) (SubA.refl _))
end Go.Proofs.Ytkkpmcomloekoaa
