/-
Disputes: the walks of Expire and New.
Conditions: none.
-/
import Derived.Test.YtiholbpchhifiaaGreatDoorDss
namespace Go.Proofs.YtiholbpchhifiaaGreatDoor
open Go.Vm
set_option linter.unusedSimpArgs false
set_option linter.unusedVariables false
set_option maxHeartbeats 4000000
set_option maxRecDepth 20000
theorem vbDsn : type_of% (And.intro @slIndexByte_v (And.intro @indexByte_v (And.intro @indexRune_v (And.intro @containsRune_v (And.intro @classOf_v (And.intro @isWordByte_v (And.intro @wordAt_v (And.intro @isName_v (And.intro @possible_v (And.intro @days_v (And.intro @due_v (And.intro @evName_v (And.intro @evCheck_v (And.intro @dNext_v (And.intro @recId_v (And.intro @moneyCur_v (And.intro @inTotal_v (And.intro @exCard_v (And.intro @recCheck_v (@dspId_v)))))))))))))))))))) := And.intro @slIndexByte_v (And.intro @indexByte_v (And.intro @indexRune_v (And.intro @containsRune_v (And.intro @classOf_v (And.intro @isWordByte_v (And.intro @wordAt_v (And.intro @isName_v (And.intro @possible_v (And.intro @days_v (And.intro @due_v (And.intro @evName_v (And.intro @evCheck_v (And.intro @dNext_v (And.intro @recId_v (And.intro @moneyCur_v (And.intro @inTotal_v (And.intro @exCard_v (And.intro @recCheck_v (@dspId_v)))))))))))))))))))
/-- What Expire leaves. -/
def ExpP (X : AH) (db : Nat) (fv : Value) (R : List Rs) (u : Value) (D : AH) (q : List Txt × List Fd) : Prop := ∃ B E' F', OwnL strC 1 9 u B q.1 ∧ DkP E' db fv R F' ∧ F'.map Fo.d = q.2 ∧ Dis E' (B ++ X) ∧ Dis B X ∧ SubA (E' ++ (B ++ X)) D
theorem exp_step {F : List Fd} {e : Nat} {f : Fd} (date : Int) (h : F[e]? = some f) : (F.take (e + 1)).filter (fun f => dueB f date) = (F.take e).filter (fun f => dueB f date) ++ (if dueB f date = true then [f] else []) := by
  rw [List.take_add_one, h, List.filter_append]
  congr 1
  by_cases h1 : dueB f date = true <;> simp [h1]
theorem sc_s1 (a : ByteArray) : sliceCells Tryz.prog 37 1 [(0, .string a)] = some (9, #[.string a]) := by kernel_rfl
theorem map_set_id {α : Type} : ∀ {L : List α} {i : Nat} {x : α}, L[i]? = some x → L.set i x = L
  | [], _, _, h => by simp at h
  | y :: L, 0, x, h => by simp at h; subst h; rfl
  | y :: L, i + 1, x, h => by simp only [List.set_cons_succ]; rw [map_set_id (L := L) (by simpa using h)]
theorem expP_h (E : AH) (X : AH) (db : Nat) (fv : Value) (R : List Rs) (F : List Fo) (hE : DkP E db fv R F) (hEX : Dis E X) (hF : FdsOk (F.map Fo.d)) (date : Int) : CallA Tryz.prog 9 #[.pointer (some ⟨db, 0, none⟩), .int .i64 date] (E ++ X) (fun u_ A_ => ExpP X db fv R u_ A_ (expX (R.map Rs.d) (F.map Fo.d) date)) := by
  refine callA_of_denA ⟨Tryz.prog, 9, Tryz.f9, 69, [0, 1, 4, 5, 6, 7, 8, 9, 24, 25], [20], [], _⟩ (args := [_, _]) Tryz.func9 rfl (by kernel_rfl) Tryz.ntmps9 (by simp) (by kernel_rfl) ?_
  intro ν fr; have nuE := fr.nu
  by_cases k1 : date < 0
  · have hx : expX (R.map Rs.d) (F.map Fo.d) date = ([], F.map Fo.d) := by unfold expX; rw [if_pos (by simp [okDate]; omega)]
    rw [hx]
    simp (maxDischargeDepth := 16) only [argE_nil, argE_cons, ↓vmD, vmV, vmStd, Nat.reduceMul, ↓reduceIte, Nat.reduceAdd, Nat.reduceSub, Nat.reduceEqDiff, Nat.reduceLT, Nat.reduceLeDiff, reduceCtorEq, Int.reduceToNat, Int.reduceLT, Int.reduceLE, Int.reduceEq, Int.reduceNeg, Int.reduceBEq, Int.reduceBNe, String.reduceEq, forall_const, ↓vmDA, vmVA, ↓vmQA, vmR, vmRA, ↓vmSA, vmSV, tyS, nuE, SubA.skip, SubA.refl, fr.2, vbDsn, eq_true k1]
    exact ⟨[], E, F, OwnL.nil _ _ _, hE, rfl, hEX, Dis.nil _, SubA.refl _⟩
  by_cases k2 : 99999 < date
  · have hx : expX (R.map Rs.d) (F.map Fo.d) date = ([], F.map Fo.d) := by unfold expX; rw [if_pos (by simp [okDate]; omega)]
    rw [hx]
    simp (maxDischargeDepth := 16) only [argE_nil, argE_cons, ↓vmD, vmV, vmStd, Nat.reduceMul, ↓reduceIte, Nat.reduceAdd, Nat.reduceSub, Nat.reduceEqDiff, Nat.reduceLT, Nat.reduceLeDiff, reduceCtorEq, Int.reduceToNat, Int.reduceLT, Int.reduceLE, Int.reduceEq, Int.reduceNeg, Int.reduceBEq, Int.reduceBNe, String.reduceEq, forall_const, ↓vmDA, vmVA, ↓vmQA, vmR, vmRA, ↓vmSA, vmSV, tyS, nuE, SubA.skip, SubA.refl, fr.2, vbDsn, eq_false k1, eq_true k2]
    exact ⟨[], E, F, OwnL.nil _ _ _, hE, rfl, hEX, Dis.nil _, SubA.refl _⟩
  have hx : expX (R.map Rs.d) (F.map Fo.d) date = (((F.map Fo.d).filter fun f => dueB f date).map (fun f => f.c.id), (F.map Fo.d).map (expF (R.map Rs.d) date)) := by unfold expX; rw [if_neg (by simp [okDate]; omega)]
  have l1 : ∃ rp rcap pr, Vm.look (E ++ X) db = some (Obj.cells #[.slice rp R.length rcap, fv, .map (some pr)] 65) := by
    obtain ⟨rp, rcap, pr, es, cl, M, fp, fcap, e, hc, l1', _⟩ := hE.out
    subst e
    exact ⟨rp, rcap, pr, SubA.left E X _ _ l1'⟩
  obtain ⟨rp, rcap, pr, l1⟩ := l1
  obtain ⟨fp, fcap, e, hcap⟩ : ∃ fp fcap, fv = .slice fp F.length fcap ∧ F.length ≤ fcap := by
    obtain ⟨_, _, _, _, _, _, fp, fcap, e, hc, _⟩ := hE.out
    exact ⟨fp, fcap, e, hc⟩
  subst e
  have hl64 := hF.2.1
  rw [List.length_map] at hl64
  simp (maxDischargeDepth := 16) only [argE_nil, argE_cons, ↓vmD, vmV, vmStd, Nat.reduceMul, ↓reduceIte, Nat.reduceAdd, Nat.reduceSub, Nat.reduceEqDiff, Nat.reduceLT, Nat.reduceLeDiff, reduceCtorEq, Int.reduceToNat, Int.reduceLT, Int.reduceLE, Int.reduceEq, Int.reduceNeg, Int.reduceBEq, Int.reduceBNe, String.reduceEq, forall_const, ↓vmDA, vmVA, ↓vmQA, vmR, vmRA, ↓vmSA, vmSV, tyS, nuE, SubA.skip, SubA.refl, fr.2, vbDsn, eq_false k1, eq_false k2, l1]
  generalize hD0 : F.map Fo.d = D0 at *
  have hDl : D0.length = F.length := by rw [← hD0]; simp
  obtain ⟨e, m, v, B, E1, F1, he, hv, hm, ho, hE1, hF1, d1, dB, hsub⟩ : ∃ (e m : Nat) (v : Value) (B E1 : AH) (F1 : List Fo), e = 0 ∧ v = .slice none 0 0 ∧ F.length = e + m ∧ OwnL strC 1 9 v B (((D0.take e).filter fun f => dueB f date).map (fun f => f.c.id)) ∧ DkP E1 db (.slice fp F.length fcap) R F1 ∧ F1.map Fo.d = (D0.take e).map (expF (R.map Rs.d) date) ++ D0.drop e ∧ Dis E1 (B ++ X) ∧ Dis B X ∧ SubA (E1 ++ (B ++ X)) (E ++ X) :=
    ⟨0, F.length, _, [], E, F, rfl, rfl, by omega, OwnL.nil _ _ _, hE, by rw [hD0]; simp, hEX, Dis.nil _, SubA.refl _⟩
  rw [show (25, some (Value.int .i64 0)) = (25, some (Value.int .i64 (e : Int))) by rw [he]; rfl]
  rw [show (5, some (Value.slice none 0 0)) = (5, some v) by rw [hv]]
  refine LoopA.at hsub ?_
  clear he hv hsub l1 nuE fr hE hD0 hEX
  induction m generalizing e v B E1 F1 with
  | zero =>
    have lt : ((e : Int) < (F.length : Int)) = False := eq_false (by omega)
    rw [List.take_of_length_le (by omega)] at ho hF1
    rw [List.drop_of_length_le (by omega), List.append_nil] at hF1
    refine LoopA.intro (by kernel_rfl) ?_
    intro ν fr; have nuE := fr.nu
    simp (maxDischargeDepth := 16) only [argE_nil, argE_cons, ↓vmD, vmV, vmStd, Nat.reduceMul, ↓reduceIte, Nat.reduceAdd, Nat.reduceSub, Nat.reduceEqDiff, Nat.reduceLT, Nat.reduceLeDiff, reduceCtorEq, Int.reduceToNat, Int.reduceLT, Int.reduceLE, Int.reduceEq, Int.reduceNeg, Int.reduceBEq, Int.reduceBNe, String.reduceEq, forall_const, ↓vmDA, vmVA, ↓vmQA, vmR, vmRA, ↓vmSA, vmSV, tyS, nuE, SubA.skip, SubA.refl, fr.2, vbDsn, lt]
    rw [hx]
    exact ⟨B, E1, F1, ho, hE1, hF1, d1, dB, SubA.refl _⟩
  | succ m ih =>
    have lt : ((e : Int) < (F.length : Int)) = True := eq_true (by omega)
    have we : IntKind.i64.wrap ((e : Int) + 1) = ((e + 1 : Nat) : Int) := by rw [w_i64 (by omega) (by omega)]; omega
    have hlt : e < D0.length := by omega
    have hg := List.getElem?_eq_getElem hlt
    generalize D0[e] = g at hg
    have hF1l : F1.length = F.length := by have := congrArg List.length hF1; simp at this; omega
    have htl : ((D0.take e).map (expF (R.map Rs.d) date)).length = e := by simp; omega
    have hg1 : (F1.map Fo.d)[e]? = some g := by
      rw [hF1, List.getElem?_append_right (by omega), htl, Nat.sub_self, List.getElem?_drop]; simpa using hg
    have hF1s : ∀ y, (F1.map Fo.d).set e y = (D0.take e).map (expF (R.map Rs.d) date) ++ y :: D0.drop (e + 1) := fun y => by
      rw [hF1, List.set_append_right _ _ (by omega), htl, Nat.sub_self, List.drop_eq_getElem_cons hlt]; rfl
    have htk : D0.take (e + 1) = D0.take e ++ [g] := by rw [List.take_add_one, hg]; rfl
    rw [List.getElem?_map, Option.map_eq_some_iff] at hg1
    obtain ⟨f, hf, hfd⟩ := hg1
    subst hfd
    obtain ⟨ok1, ok2, ok3, ok4, ok5⟩ := hF.1 f.d (List.mem_of_getElem? hg)
    obtain ⟨fb, fcap', cur, e', lfb', hcs, hcc, hcall⟩ := hE1.enter hf (by omega)
    rw [hF1l] at e'
    cases e'
    obtain ⟨rp, rcap, pr, es, cl, M, fp', fcap', e', _, l1', _⟩ := hE1.out
    have l1 := SubA.left E1 (B ++ X) _ _ l1'
    have lfb := SubA.left E1 (B ++ X) _ _ lfb'
    have li : ((e : Int) < 0) = False := eq_false (by omega)
    have c7 : cur[e * 12 + 7]? = some (.int .i64 f.d.c.st) := hcc 7 _ rfl
    have c9 : cur[e * 12 + 9]? = some (.int .i64 f.d.c.du) := hcc 9 _ rfl
    have hfl := exp_step date hg
    refine LoopA.intro (by kernel_rfl) ?_
    intro ν fr; have nuE := fr.nu
    cases hdb : dueB f.d date with
    | false =>
      have hst : expF (R.map Rs.d) date f.d = f.d := by unfold expF; rw [if_neg (by rw [hdb]; simp)]
      rw [if_neg (by rw [hdb]; simp), List.append_nil] at hfl
      have hcond : ((nextF f.d.c.st 7).2 = 0 → ¬ f.d.c.du < date) := by simpa [dueB] using hdb
      have hF2 : F1.map Fo.d = (D0.take (e + 1)).map (expF (R.map Rs.d) date) ++ D0.drop (e + 1) := by
        rw [htk, List.map_append, List.append_assoc]
        have := hF1s f.d
        rw [map_set_id (show (F1.map Fo.d)[e]? = some f.d by rw [List.getElem?_map, hf]; rfl)] at this
        rw [this, List.map_cons, List.map_nil, hst]; rfl
      by_cases q : (nextF f.d.c.st 7).2 = 0
      · simp (maxDischargeDepth := 16) only [argE_nil, argE_cons, ↓vmD, vmV, vmStd, Nat.reduceMul, ↓reduceIte, Nat.reduceAdd, Nat.reduceSub, Nat.reduceEqDiff, Nat.reduceLT, Nat.reduceLeDiff, reduceCtorEq, Int.reduceToNat, Int.reduceLT, Int.reduceLE, Int.reduceEq, Int.reduceNeg, Int.reduceBEq, Int.reduceBNe, String.reduceEq, forall_const, ↓vmDA, vmVA, ↓vmQA, vmR, vmRA, ↓vmSA, vmSV, tyS, nuE, SubA.skip, SubA.refl, fr.2, vbDsn, lt, l1, li, lfb, c7, c9, we, q, eq_false (hcond q)]
        exact LoopA.weak (ih (e + 1) v B E1 F1 (by omega) (by rw [hfl]; exact ho) hE1 hF2 d1 dB) (by simp only [subE, get_cons, Nat.reduceEqDiff, ↓reduceIte, reduceCtorEq, Nat.reduceAdd, and_self, and_true]) (SubA.refl _)
      · simp (maxDischargeDepth := 16) only [argE_nil, argE_cons, ↓vmD, vmV, vmStd, Nat.reduceMul, ↓reduceIte, Nat.reduceAdd, Nat.reduceSub, Nat.reduceEqDiff, Nat.reduceLT, Nat.reduceLeDiff, reduceCtorEq, Int.reduceToNat, Int.reduceLT, Int.reduceLE, Int.reduceEq, Int.reduceNeg, Int.reduceBEq, Int.reduceBNe, String.reduceEq, forall_const, ↓vmDA, vmVA, ↓vmQA, vmR, vmRA, ↓vmSA, vmSV, tyS, nuE, SubA.skip, SubA.refl, fr.2, vbDsn, lt, l1, li, lfb, c7, c9, we, eq_false q]
        exact LoopA.weak (ih (e + 1) v B E1 F1 (by omega) (by rw [hfl]; exact ho) hE1 hF2 d1 dB) (by simp only [subE, get_cons, Nat.reduceEqDiff, ↓reduceIte, reduceCtorEq, Nat.reduceAdd, and_self, and_true]) (SubA.refl _)
    | true =>
      have hst : expF (R.map Rs.d) date f.d = enterX (R.map Rs.d) f.d (nextF f.d.c.st 7).1 date := by unfold expF; rw [if_pos hdb]
      rw [if_pos hdb] at hfl
      have hcond : (nextF f.d.c.st 7).2 = 0 ∧ f.d.c.du < date := by simpa [dueB] using hdb
      obtain ⟨q, vcap, rfl, hq⟩ := own_tx ho
      have hvl : (((D0.take e).filter fun f => dueB f date).map (fun f => f.c.id)).length ≤ e := by
        rw [List.length_map]; exact Nat.le_trans (List.length_filter_le _ _) (by simp; omega)
      simp (maxDischargeDepth := 16) only [argE_nil, argE_cons, ↓vmD, vmV, vmStd, Nat.reduceMul, ↓reduceIte, Nat.reduceAdd, Nat.reduceSub, Nat.reduceEqDiff, Nat.reduceLT, Nat.reduceLeDiff, reduceCtorEq, Int.reduceToNat, Int.reduceLT, Int.reduceLE, Int.reduceEq, Int.reduceNeg, Int.reduceBEq, Int.reduceBNe, String.reduceEq, forall_const, ↓vmDA, vmVA, ↓vmQA, vmR, vmRA, ↓vmSA, vmSV, tyS, nuE, SubA.skip, SubA.refl, fr.2, vbDsn, lt, l1, li, lfb, c7, c9, we, hcond.1, eq_true hcond.2]
      refine CallA.stX ((hcall (nextF f.d.c.st 7).1 date).mono fun v D ⟨E', h, hs, _⟩ => ⟨E', h, hs⟩) (SubA.left E1 (B ++ X)) d1.right d1 ?_
      rintro _ E2 ⟨rfl, ⟨sv, SB, hE2⟩, hl2⟩ d2
      have hF2 : (F1.set e ⟨enterX (R.map Rs.d) f.d (nextF f.d.c.st 7).1 date, sv, SB⟩).map Fo.d = (D0.take (e + 1)).map (expF (R.map Rs.d) date) ++ D0.drop (e + 1) := by
        rw [List.map_set, hF1s, htk, List.map_append, List.append_assoc, ← hst]; rfl
      obtain ⟨_, _, _, _, _, _, fp2, fcap2, e2, _, _, _, _, _, _, _, _, _, hs2, _⟩ := hE2.out
      have hat := hs2.at (i := e) (a := ⟨enterX (R.map Rs.d) f.d (nextF f.d.c.st 7).1 date, sv, SB⟩) (by rw [List.getElem?_set_self (by omega)])
      rw [List.length_set, hF1l] at e2
      cases e2
      obtain ⟨bk, off, cs2, ty2, fr2, hp2, hbk2, _, hcc2⟩ := hat
      cases hp2
      have c0 : cs2[0 + e * 12 + 0]? = some (.string (bs f.d.c.id)) := hcc2 0 _ rfl
      simp only [Nat.zero_add, Nat.add_zero] at c0
      have lbk := SubA.left E2 (B ++ X) _ _ hbk2
      intro ν fr; have nuE := fr.nu
      simp (maxDischargeDepth := 16) only [argE_nil, argE_cons, ↓vmD, vmV, vmStd, Nat.reduceMul, ↓reduceIte, Nat.reduceAdd, Nat.reduceSub, Nat.reduceEqDiff, Nat.reduceLT, Nat.reduceLeDiff, reduceCtorEq, Int.reduceToNat, Int.reduceLT, Int.reduceLE, Int.reduceEq, Int.reduceNeg, Int.reduceBEq, Int.reduceBNe, String.reduceEq, forall_const, ↓vmDA, vmVA, ↓vmQA, vmR, vmRA, ↓vmSA, vmSV, tyS, nuE, SubA.skip, SubA.refl, fr.2, vbDsn, lbk, c0, sc_s1]
      have f0 := fr.2 0
      have sB : SubA B (E2 ++ (B ++ X)) := SubA.trans (SubA.left B X) d2.right
      have sX : SubA X (E2 ++ (B ++ X)) := SubA.trans dB.right d2.right
      have dEB : Dis B E2 := (Dis.subr d2 (SubA.left B X)).symm
      refine RunA.use ?_
      refine append_src (m := 1) (news := strC f.d.c.id) (B := B) slc37 zro9 rfl (by decide) ho (SubA.fresh f0 sB) (.inr ⟨ν 0, 0, rfl, by simp (maxDischargeDepth := 16) only [argE_nil, argE_cons, ↓vmD, vmV, vmStd, Nat.reduceMul, ↓reduceIte, Nat.reduceAdd, Nat.reduceSub, Nat.reduceEqDiff, Nat.reduceLT, Nat.reduceLeDiff, reduceCtorEq, Int.reduceToNat, Int.reduceLT, Int.reduceLE, Int.reduceEq, Int.reduceNeg, Int.reduceBEq, Int.reduceBNe, String.reduceEq, forall_const, ↓vmDA, vmVA, ↓vmQA, vmR, vmRA, ↓vmSA, vmSV, tyS, nuE, SubA.skip, SubA.refl, fr.2, vbDsn, strC]⟩) (str_one _) (by simp only [maxLen]; omega) (by omega) ?_
      intro v' B' ho' hb'
      have dE' : Dis B' E2 := ap_dis hb' dEB (SubA.fresh f0 (SubA.left E2 _))
      have dX' : Dis B' X := ap_dis hb' dB (SubA.fresh f0 sX)
      refine ⟨E2 ++ (B' ++ X), SubA.both (Dis.sub dE' (SubA.fresh f0 (SubA.left E2 _))) (SubA.both (SubA.left B' _) (Dis.sub dX' (SubA.fresh f0 sX))), ?_⟩
      intro ν3 fr3
      have fr := fr3
      have nuE := fr.nu
      simp (maxDischargeDepth := 16) only [argE_nil, argE_cons, ↓vmD, vmV, vmStd, Nat.reduceMul, ↓reduceIte, Nat.reduceAdd, Nat.reduceSub, Nat.reduceEqDiff, Nat.reduceLT, Nat.reduceLeDiff, reduceCtorEq, Int.reduceToNat, Int.reduceLT, Int.reduceLE, Int.reduceEq, Int.reduceNeg, Int.reduceBEq, Int.reduceBNe, String.reduceEq, forall_const, ↓vmDA, vmVA, ↓vmQA, vmR, vmRA, ↓vmSA, vmSV, tyS, nuE, SubA.skip, SubA.refl, fr.2, vbDsn, we]
      have ho2 : OwnL strC 1 9 v' B' (((D0.take (e + 1)).filter fun f => dueB f date).map (fun f => f.c.id)) := by
        rw [hfl, List.map_append]
        unfold OwnL
        rw [List.length_append, List.flatMap_append]
        simpa only [List.map_cons, List.map_nil, List.length_cons, List.length_nil, List.flatMap_cons, List.flatMap_nil, List.append_nil, Nat.zero_add] using ho'
      have d3 : Dis E2 (B' ++ X) := dE'.symm.appr (Dis.subr d2 dB.right)
      exact LoopA.weak (ih (e + 1) v' B' E2 _ (by omega) ho2 hE2 hF2 d3 dX') (by simp only [subE, get_cons, Nat.reduceEqDiff, ↓reduceIte, reduceCtorEq, Nat.reduceAdd, and_self, and_true]) (SubA.refl _)

set_option linter.unusedSimpArgs false
set_option linter.unusedVariables false
set_option maxHeartbeats 4000000
set_option maxRecDepth 20000
theorem rs_app {v' : Value} {B' : AH} {T : List Rs} {t : Rs} (ho' : OwnZ 57 7 v' B' (T.length + 1) (T.flatMap rsC ++ rsC t)) : OwnL rsC 7 57 v' B' (T ++ [t]) := by
  unfold OwnL
  rw [List.length_append, List.flatMap_append]
  simpa using ho'
theorem sc_rs (a : ByteArray) (b c d e : Int) (p q : Option Addr) (n1 n2 c1 c2 : Nat) : sliceCells Tryz.prog 58 1 [(0, .agg #[.string a, .int .i64 b, .int .i64 c, .int .i64 d, .int .i64 e, .slice p n1 c1, .slice q n2 c2])] = some (57, #[.string a, .int .i64 b, .int .i64 c, .int .i64 d, .int .i64 e, .slice p n1 c1, .slice q n2 c2]) := by kernel_rfl
theorem newD_h (A : AH) (L : List Rs) (p : Option Addr) (cap : Nat) (hL : RsR A p L) (hl : L.length ≤ cap ∧ cap ≤ 9223372036854775807) : CallA Tryz.prog 17 #[.slice p L.length cap] A (fun u_ A_ => (chkE (L.map Rs.d) ≠ 0 ∧ u_ = .tuple #[.pointer none, .int .i64 (chkE (L.map Rs.d))] ∧ SubA A A_) ∨ (chkE (L.map Rs.d) = 0 ∧ ∃ db E R, u_ = .tuple #[.pointer (some ⟨db, 0, none⟩), .int .i64 0] ∧ DkP E db (.slice none 0 0) R [] ∧ R.map Rs.d = L.map Rs.d ∧ Dis E A ∧ SubA (E ++ A) A_)) := by
  refine callA_of_denA ⟨Tryz.prog, 17, Tryz.f17, 42, [0, 2, 3, 4, 5, 7, 16, 17, 18], [38], [], _⟩ (args := [_]) Tryz.func17 rfl (by kernel_rfl) Tryz.ntmps17 (by simp) (by kernel_rfl) ?_
  intro ν fr; have nuE := fr.nu
  have cv := chkR_w A L p cap hL hl A (SubA.refl _)
  by_cases h0 : chkE (L.map Rs.d) = 0
  rotate_left
  · simp (maxDischargeDepth := 16) only [argE_nil, argE_cons, ↓vmD, vmV, vmStd, Nat.reduceMul, ↓reduceIte, Nat.reduceAdd, Nat.reduceSub, Nat.reduceEqDiff, Nat.reduceLT, Nat.reduceLeDiff, reduceCtorEq, Int.reduceToNat, Int.reduceLT, Int.reduceLE, Int.reduceEq, Int.reduceNeg, Int.reduceBEq, Int.reduceBNe, String.reduceEq, forall_const, ↓vmDA, vmVA, ↓vmQA, vmR, vmRA, ↓vmSA, vmSV, tyS, nuE, SubA.skip, SubA.refl, fr.2, vbDsn, cv, h0]
  have hb := chkE_big h0
  have h32 : L.length ≤ 32 := by
    unfold chkE at h0
    split at h0
    · cases h0
    · rename_i h; simpa using h
  simp (maxDischargeDepth := 16) only [argE_nil, argE_cons, ↓vmD, vmV, vmStd, Nat.reduceMul, ↓reduceIte, Nat.reduceAdd, Nat.reduceSub, Nat.reduceEqDiff, Nat.reduceLT, Nat.reduceLeDiff, reduceCtorEq, Int.reduceToNat, Int.reduceLT, Int.reduceLE, Int.reduceEq, Int.reduceNeg, Int.reduceBEq, Int.reduceBNe, String.reduceEq, forall_const, ↓vmDA, vmVA, ↓vmQA, vmR, vmRA, ↓vmSA, vmSV, tyS, nuE, SubA.skip, SubA.refl, fr.2, vbDsn, cv, h0]
  have f0 := fr.2 0
  have f1 := fr.2 1
  have dst_ : ((ν 0 = ν 1) = False) ∧ ((ν 1 = ν 0) = False) := (by simp [nuE]); generalize ν 0 = m0 at dst_  f0 f1 ⊢; generalize ν 1 = db at dst_  f0 f1 ⊢
  clear nuE fr
  obtain ⟨e, l, v, B, Y, R, he, hv, hd, hle, ho, hY, hRd, sp, hsub⟩ : ∃ (e : Nat) (l : List Rs) (v : Value) (B Y : AH) (R : List Rs), e = 0 ∧ v = .slice none 0 0 ∧ l = L.drop e ∧ e ≤ L.length ∧ OwnL rsC 7 57 v B R ∧ (∀ r ∈ R, InR Y r) ∧ R.map Rs.d = (L.take e).map Rs.d ∧ Sep [[(db, (Obj.cells #[v, .slice none 0 0, .map (some m0)] 65))], [(m0, .map #[] 0)], B, Y, A] ∧ SubA (cat [[(db, (Obj.cells #[v, .slice none 0 0, .map (some m0)] 65))], [(m0, .map #[] 0)], B, Y, A]) ((db, Obj.cells #[.slice none 0 0, .slice none 0 0, .map (some m0)] 65) :: (m0, .map #[] 0) :: A) :=
    ⟨0, L, .slice none 0 0, [], [], [], rfl, rfl, rfl, by omega, OwnL.nil _ _ _, (fun r hr => by cases hr), rfl, Sep.fresh (by simp only [cat, List.nil_append, List.cons_append, Vm.look, dst_, if_false]; exact f1) _ (Sep.fresh (by simp only [cat, List.nil_append]; exact f0) _ ⟨⟨Dis.nil _, Dis.nil _, trivial⟩, ⟨Dis.nil _, trivial⟩, Sep.one _⟩), SubA.refl _⟩
  rw [show (18, some (Value.int .i64 0)) = (18, some (Value.int .i64 (e : Int))) by rw [he]; rfl]
  refine LoopA.at hsub ?_
  clear he hv hsub
  obtain ⟨dm1, dm2⟩ := dst_
  induction l generalizing e v B Y R with
  | nil =>
    obtain ⟨hn1, hn2⟩ := drop_nil hd hle
    have lt : ((e : Int) < (L.length : Int)) = False := eq_false (by omega)
    rw [hn2] at hRd
    refine LoopA.intro (by kernel_rfl) ?_
    simp only [cat, List.cons_append, List.nil_append]
    intro ν fr
    have nuE := And.intro dm1 (And.intro dm2 (And.intro (fr.mem (b := db) (by simp)) (And.intro (fr.mem (b := m0) (by simp)) fr.nu)))
    simp (maxDischargeDepth := 16) only [argE_nil, argE_cons, ↓vmD, vmV, vmStd, Nat.reduceMul, ↓reduceIte, Nat.reduceAdd, Nat.reduceSub, Nat.reduceEqDiff, Nat.reduceLT, Nat.reduceLeDiff, reduceCtorEq, Int.reduceToNat, Int.reduceLT, Int.reduceLE, Int.reduceEq, Int.reduceNeg, Int.reduceBEq, Int.reduceBNe, String.reduceEq, forall_const, ↓vmDA, vmVA, ↓vmQA, vmR, vmRA, ↓vmSA, vmSV, tyS, nuE, SubA.skip, SubA.refl, fr.2, vbDsn, lt]
    obtain ⟨rp, rcap, rfl, hrc, hrs⟩ := ho.read rsC_len
    have hRl : R.length = L.length := by have := congrArg List.length hRd; simpa using this
    have hBY : Dis B Y := (Sep.pick sp [2, 3] rfl rfl).1.1
    have spE : Sep ([(db, Obj.cells #[.slice rp R.length rcap, .slice none 0 0, .map (some m0)] 65)] :: [(m0, Obj.map #[] 0)] :: (B ++ Y) :: [] :: ([] : List Fo).map Fo.sb) :=
      Sep.snoc (l := [[_], [_], B ++ Y]) (Sep.coarse (a := [_, _]) (m := [B, Y]) (Sep.pick sp [0, 1, 2, 3] rfl rfl)) (fun x hx => absurd rfl hx)
    refine .inr ⟨h0, db, _, R, rfl, ⟨rp, rcap, m0, #[], 0, [], B ++ Y, [], rfl, spE, ⟨hrs.mono (SubA.left B Y), fun r hr => (hY r hr).mono hBY.right⟩, ?_, ⟨hrc, own_cap ho⟩, by omega, OwnL.nil _ _ _, (fun f hf => by cases hf), rfl, fun k => by simp [lookM_nil, posF]⟩, hRd, ?_, ?_⟩
    · intro r hr
      have : r.d ∈ L.map Rs.d := by rw [← hRd]; exact List.mem_map_of_mem hr
      obtain ⟨z, hz, hzd⟩ := List.mem_map.1 this
      rw [← hzd]; exact hb z hz
    · have d := Sep.dis (Sep.perm sp (m := [A, [(db, Obj.cells #[.slice rp R.length rcap, .slice none 0 0, .map (some m0)] 65)], [(m0, .map #[] 0)], B, Y]) (List.perm_append_comm (l₁ := [_, _, _, _]) (l₂ := [A])))
      refine (Dis.subr d ?_).symm
      simp only [cat, List.map_nil, List.append_nil]
      exact SubA.refl _
    · simp only [cat, List.map_nil, List.append_nil, List.cons_append, List.nil_append, List.append_assoc]
      exact SubA.refl _
  | cons x l ih =>
    obtain ⟨ha, hlt, hd', htk⟩ := drop_some hd
    have lt : ((e : Int) < (L.length : Int)) = True := eq_true (by omega)
    have we : IntKind.i64.wrap ((e : Int) + 1) = ((e + 1 : Nat) : Int) := by rw [w_i64 (by omega) (by omega)]; omega
    obtain ⟨bk, off, cs, ty, fr0, hp0, hbk, hcr, hcc⟩ := hL.1.at ha
    subst hp0
    have hxm := List.mem_of_getElem? ha
    have hxr := hL.2 x hxm
    obtain ⟨y1, y2⟩ := hb x hxm
    have sA : SubA A (cat [[(db, (Obj.cells #[v, .slice none 0 0, .map (some m0)] 65))], [(m0, .map #[] 0)], B, Y, A]) := Sep.subs sp [4] rfl
    have hbk2 : Vm.look ((db, (Obj.cells #[v, .slice none 0 0, .map (some m0)] 65)) :: (m0, .map #[] 0) :: (B ++ (Y ++ A))) bk = some (.cells cs ty fr0) := sA _ _ hbk
    simp only [rsC] at hcr
    refine LoopA.intro (by kernel_rfl) ?_
    simp only [cat, List.cons_append, List.nil_append]
    intro ν fr
    have nuE := And.intro dm1 (And.intro dm2 (And.intro (fr.mem (b := db) (by simp)) (And.intro (fr.mem (b := m0) (by simp)) fr.nu)))
    have nb := fr.ne (b := bk) (by rw [hbk2]; simp)
    have f2 : Vm.look (cat [[(db, (Obj.cells #[v, .slice none 0 0, .map (some m0)] 65))], [(m0, .map #[] 0)], B, Y, A]) (ν 0) = none := fr.2 0
    have hbk3 : (if db = bk then some (Obj.cells #[v, .slice none 0 0, .map (some m0)] 65) else if m0 = bk then some (Obj.map #[] 0) else Vm.look (B ++ (Y ++ A)) bk) = some (.cells cs ty fr0) := hbk2
    simp (maxDischargeDepth := 16) only [argE_nil, argE_cons, ↓vmD, vmV, vmStd, Nat.reduceMul, ↓reduceIte, Nat.reduceAdd, Nat.reduceSub, Nat.reduceEqDiff, Nat.reduceLT, Nat.reduceLeDiff, reduceCtorEq, Int.reduceToNat, Int.reduceLT, Int.reduceLE, Int.reduceEq, Int.reduceNeg, Int.reduceBEq, Int.reduceBNe, String.reduceEq, forall_const, ↓vmDA, vmVA, ↓vmQA, vmR, vmRA, ↓vmSA, vmSV, tyS, nuE, SubA.skip, SubA.refl, fr.2, vbDsn, lt, hbk3, hcr, nb]
    have dst_ : ((ν 0 = db) = False) ∧ ((ν 0 = m0) = False) ∧ ((db = ν 0) = False) ∧ ((m0 = ν 0) = False) := (by simp [nuE]); generalize ν 0 = n0 at dst_  f2 ⊢
    obtain ⟨q1, q2, q3, q4⟩ := dst_
    clear nuE fr nb
    have sp1 : Sep [[(n0, (Obj.cells #[.string (bs x.d.code), .int .i64 x.d.d1, .int .i64 x.d.d2, .int .i64 x.d.d3, .int .i64 x.d.d4, .slice x.p1 x.d.cl.length x.c1, .slice x.p2 x.d.df.length x.c2] 57))], [(db, (Obj.cells #[v, .slice none 0 0, .map (some m0)] 65))], [(m0, .map #[] 0)], B, Y, A] := Sep.fresh f2 _ sp
    refine CallA.newX (cloneS_h A _ _ _ hxr.1 y1) (Sep.subs sp1 [5] rfl) ?_
    intro v1 B1 ho1 hd1
    obtain ⟨p1, cap1, rfl, hq1⟩ := own_tx ho1
    have sp2 : Sep [B1, [(n0, (Obj.cells #[.string (bs x.d.code), .int .i64 x.d.d1, .int .i64 x.d.d2, .int .i64 x.d.d3, .int .i64 x.d.d4, .slice x.p1 x.d.cl.length x.c1, .slice x.p2 x.d.df.length x.c2] 57))], [(db, (Obj.cells #[v, .slice none 0 0, .map (some m0)] 65))], [(m0, .map #[] 0)], B, Y, A] := Sep.cons hd1 sp1
    refine ⟨cat [[(n0, (Obj.cells #[.string (bs x.d.code), .int .i64 x.d.d1, .int .i64 x.d.d2, .int .i64 x.d.d3, .int .i64 x.d.d4, .slice x.p1 x.d.cl.length x.c1, .slice x.p2 x.d.df.length x.c2] 57))], [(db, (Obj.cells #[v, .slice none 0 0, .map (some m0)] 65))], [(m0, .map #[] 0)], B, B1, Y, A], Sep.subs sp2 [1, 2, 3, 4, 0, 5, 6] rfl, ?_⟩
    simp only [cat, List.cons_append, List.nil_append]
    intro ν fr
    have nuE := And.intro dm1 (And.intro dm2 (And.intro q1 (And.intro q2 (And.intro q3 (And.intro q4 (And.intro (fr.mem (b := n0) (by simp)) (And.intro (fr.mem (b := db) (by simp)) (And.intro (fr.mem (b := m0) (by simp)) fr.nu))))))))
    simp (maxDischargeDepth := 16) only [argE_nil, argE_cons, ↓vmD, vmV, vmStd, Nat.reduceMul, ↓reduceIte, Nat.reduceAdd, Nat.reduceSub, Nat.reduceEqDiff, Nat.reduceLT, Nat.reduceLeDiff, reduceCtorEq, Int.reduceToNat, Int.reduceLT, Int.reduceLE, Int.reduceEq, Int.reduceNeg, Int.reduceBEq, Int.reduceBNe, String.reduceEq, forall_const, ↓vmDA, vmVA, ↓vmQA, vmR, vmRA, ↓vmSA, vmSV, tyS, nuE, SubA.skip, SubA.refl, fr.2, vbDsn]
    clear nuE fr
    have sp3 : Sep [[(n0, (Obj.cells #[.string (bs x.d.code), .int .i64 x.d.d1, .int .i64 x.d.d2, .int .i64 x.d.d3, .int .i64 x.d.d4, .slice p1 x.d.cl.length cap1, .slice x.p2 x.d.df.length x.c2] 57))], [(db, (Obj.cells #[v, .slice none 0 0, .map (some m0)] 65))], [(m0, .map #[] 0)], B, B1, Y, A] := Sep.set (l := [[(n0, (Obj.cells #[.string (bs x.d.code), .int .i64 x.d.d1, .int .i64 x.d.d2, .int .i64 x.d.d3, .int .i64 x.d.d4, .slice x.p1 x.d.cl.length x.c1, .slice x.p2 x.d.df.length x.c2] 57))], [(db, (Obj.cells #[v, .slice none 0 0, .map (some m0)] 65))], [(m0, .map #[] 0)], B, B1, Y, A]) 0 [(n0, (Obj.cells #[.string (bs x.d.code), .int .i64 x.d.d1, .int .i64 x.d.d2, .int .i64 x.d.d3, .int .i64 x.d.d4, .slice p1 x.d.cl.length cap1, .slice x.p2 x.d.df.length x.c2] 57))] (Sep.pick sp2 [1, 2, 3, 4, 0, 5, 6] rfl rfl) one_less
    refine CallA.newX (cloneS_h A _ _ _ hxr.2 y2) (Sep.subs sp3 [6] rfl) ?_
    intro v2 B2 ho2 hd2
    obtain ⟨p2, cap2, rfl, hq2⟩ := own_tx ho2
    have sp4 : Sep [B2, [(n0, (Obj.cells #[.string (bs x.d.code), .int .i64 x.d.d1, .int .i64 x.d.d2, .int .i64 x.d.d3, .int .i64 x.d.d4, .slice p1 x.d.cl.length cap1, .slice x.p2 x.d.df.length x.c2] 57))], [(db, (Obj.cells #[v, .slice none 0 0, .map (some m0)] 65))], [(m0, .map #[] 0)], B, B1, Y, A] := Sep.cons hd2 sp3
    refine ⟨cat [[(n0, (Obj.cells #[.string (bs x.d.code), .int .i64 x.d.d1, .int .i64 x.d.d2, .int .i64 x.d.d3, .int .i64 x.d.d4, .slice p1 x.d.cl.length cap1, .slice x.p2 x.d.df.length x.c2] 57))], [(db, (Obj.cells #[v, .slice none 0 0, .map (some m0)] 65))], [(m0, .map #[] 0)], B, B1, B2, Y, A], Sep.subs sp4 [1, 2, 3, 4, 5, 0, 6, 7] rfl, ?_⟩
    simp only [cat, List.cons_append, List.nil_append]
    intro ν fr
    have nuE := And.intro dm1 (And.intro dm2 (And.intro q1 (And.intro q2 (And.intro q3 (And.intro q4 (And.intro (fr.mem (b := n0) (by simp)) (And.intro (fr.mem (b := db) (by simp)) (And.intro (fr.mem (b := m0) (by simp)) fr.nu))))))))
    simp (maxDischargeDepth := 16) only [argE_nil, argE_cons, ↓vmD, vmV, vmStd, Nat.reduceMul, ↓reduceIte, Nat.reduceAdd, Nat.reduceSub, Nat.reduceEqDiff, Nat.reduceLT, Nat.reduceLeDiff, reduceCtorEq, Int.reduceToNat, Int.reduceLT, Int.reduceLE, Int.reduceEq, Int.reduceNeg, Int.reduceBEq, Int.reduceBNe, String.reduceEq, forall_const, ↓vmDA, vmVA, ↓vmQA, vmR, vmRA, ↓vmSA, vmSV, tyS, nuE, SubA.skip, SubA.refl, fr.2, vbDsn]
    clear nuE fr
    obtain ⟨rp, rcap, rfl, hrc, hrs⟩ := ho.read rsC_len
    have sp5 : Sep [[(n0, (Obj.cells #[.string (bs x.d.code), .int .i64 x.d.d1, .int .i64 x.d.d2, .int .i64 x.d.d3, .int .i64 x.d.d4, .slice p1 x.d.cl.length cap1, .slice p2 x.d.df.length cap2] 57))], [(db, (Obj.cells #[.slice rp R.length rcap, .slice none 0 0, .map (some m0)] 65))], [(m0, .map #[] 0)], B, B1, B2, Y, A] := Sep.set (l := [[(n0, (Obj.cells #[.string (bs x.d.code), .int .i64 x.d.d1, .int .i64 x.d.d2, .int .i64 x.d.d3, .int .i64 x.d.d4, .slice p1 x.d.cl.length cap1, .slice x.p2 x.d.df.length x.c2] 57))], [(db, (Obj.cells #[.slice rp R.length rcap, .slice none 0 0, .map (some m0)] 65))], [(m0, .map #[] 0)], B, B1, B2, Y, A]) 0 [(n0, (Obj.cells #[.string (bs x.d.code), .int .i64 x.d.d1, .int .i64 x.d.d2, .int .i64 x.d.d3, .int .i64 x.d.d4, .slice p1 x.d.cl.length cap1, .slice p2 x.d.df.length cap2] 57))] (Sep.pick sp4 [1, 2, 3, 4, 5, 0, 6, 7] rfl rfl) one_less
    refine MeantA.tree [10] (.one 0 0 (.one 1 0 (.one 2 0 (.one 3 0 (.one 4 0 (.one 5 0 (.one 6 0 (.one 7 1 (.one 8 0 (.one 9 0 (.one 10 2 .nil))))))))))) [(n0, (Obj.cells #[.string (bs x.d.code), .int .i64 x.d.d1, .int .i64 x.d.d2, .int .i64 x.d.d3, .int .i64 x.d.d4, .slice p1 x.d.cl.length cap1, .slice p2 x.d.df.length cap2] 57)), (db, (Obj.cells #[.slice rp R.length rcap, .slice none 0 0, .map (some m0)] 65))] (SubA.left [_, _] _) (by kernel_rfl) (by kernel_rfl) (by kernel_rfl) (by kernel_rfl) (by kernel_rfl) ?_
    intro ν fr
    have nuE := And.intro dm1 (And.intro dm2 (And.intro q1 (And.intro q2 (And.intro q3 (And.intro q4 (And.intro (fr.mem (b := n0) (by simp)) (And.intro (fr.mem (b := db) (by simp)) (And.intro (fr.mem (b := m0) (by simp)) fr.nu))))))))
    simp (maxDischargeDepth := 16) only [argE_nil, argE_cons, ↓vmD, vmV, vmStd, Nat.reduceMul, ↓reduceIte, Nat.reduceAdd, Nat.reduceSub, Nat.reduceEqDiff, Nat.reduceLT, Nat.reduceLeDiff, reduceCtorEq, Int.reduceToNat, Int.reduceLT, Int.reduceLE, Int.reduceEq, Int.reduceNeg, Int.reduceBEq, Int.reduceBNe, String.reduceEq, forall_const, ↓vmDA, vmVA, ↓vmQA, vmR, vmRA, ↓vmSA, vmSV, tyS, nuE, SubA.skip, SubA.refl, fr.2, vbDsn, tA_nil, tA_one, sc_rs]
    have g5 : Vm.look (cat [[(n0, (Obj.cells #[.string (bs x.d.code), .int .i64 x.d.d1, .int .i64 x.d.d2, .int .i64 x.d.d3, .int .i64 x.d.d4, .slice p1 x.d.cl.length cap1, .slice p2 x.d.df.length cap2] 57))], [(db, (Obj.cells #[.slice rp R.length rcap, .slice none 0 0, .map (some m0)] 65))], [(m0, .map #[] 0)], B, B1, B2, Y, A]) (ν 0) = none := fr.2 0
    have hRl : R.length = e := by have := congrArg List.length hRd; simp at this; omega
    refine RunA.use ?_
    refine append_src (m := 1) (news := rsC ⟨x.d, p1, cap1, p2, cap2⟩) (B := B) slc58 zro57 rfl (by decide) ho (SubA.fresh g5 (Sep.subs sp5 [3] rfl)) (.inr ⟨ν 0, 0, rfl, by simp (maxDischargeDepth := 16) only [argE_nil, argE_cons, ↓vmD, vmV, vmStd, Nat.reduceMul, ↓reduceIte, Nat.reduceAdd, Nat.reduceSub, Nat.reduceEqDiff, Nat.reduceLT, Nat.reduceLeDiff, reduceCtorEq, Int.reduceToNat, Int.reduceLT, Int.reduceLE, Int.reduceEq, Int.reduceNeg, Int.reduceBEq, Int.reduceBNe, String.reduceEq, forall_const, ↓vmDA, vmVA, ↓vmQA, vmR, vmRA, ↓vmSA, vmSV, tyS, nuE, SubA.skip, SubA.refl, fr.2, vbDsn, rsC]⟩) (by simp [rsC, Value.oneCell']) (by simp only [maxLen]; omega) (by omega) ?_
    intro v' B' ho' hb'
    have ho3 := rs_app ho'
    have dO : Dis B' (cat [[(n0, (Obj.cells #[.string (bs x.d.code), .int .i64 x.d.d1, .int .i64 x.d.d2, .int .i64 x.d.d3, .int .i64 x.d.d4, .slice p1 x.d.cl.length cap1, .slice p2 x.d.df.length cap2] 57))], [(db, (Obj.cells #[.slice rp R.length rcap, .slice none 0 0, .map (some m0)] 65))], [(m0, .map #[] 0)], B1, B2, Y, A]) := ap_dis hb' (Sep.dis (Sep.pick sp5 [3, 0, 1, 2, 4, 5, 6, 7] rfl rfl)) (SubA.fresh g5 (Sep.subs sp5 [0, 1, 2, 4, 5, 6, 7] rfl))
    have sp6 : Sep [B', [(n0, (Obj.cells #[.string (bs x.d.code), .int .i64 x.d.d1, .int .i64 x.d.d2, .int .i64 x.d.d3, .int .i64 x.d.d4, .slice p1 x.d.cl.length cap1, .slice p2 x.d.df.length cap2] 57))], [(db, (Obj.cells #[.slice rp R.length rcap, .slice none 0 0, .map (some m0)] 65))], [(m0, .map #[] 0)], B1, B2, Y, A] := Sep.cons dO (Sep.pick sp5 [0, 1, 2, 4, 5, 6, 7] rfl rfl)
    have hS6 : SubA (cat [[(n0, (Obj.cells #[.string (bs x.d.code), .int .i64 x.d.d1, .int .i64 x.d.d2, .int .i64 x.d.d3, .int .i64 x.d.d4, .slice p1 x.d.cl.length cap1, .slice p2 x.d.df.length cap2] 57))], [(db, (Obj.cells #[.slice rp R.length rcap, .slice none 0 0, .map (some m0)] 65))], [(m0, .map #[] 0)], B', B1, B2, Y, A]) (B' ++ ((ν 0, Obj.cells (rsC ⟨x.d, p1, cap1, p2, cap2⟩).toArray 57) :: cat [[(n0, (Obj.cells #[.string (bs x.d.code), .int .i64 x.d.d1, .int .i64 x.d.d2, .int .i64 x.d.d3, .int .i64 x.d.d4, .slice p1 x.d.cl.length cap1, .slice p2 x.d.df.length cap2] 57))], [(db, (Obj.cells #[.slice rp R.length rcap, .slice none 0 0, .map (some m0)] 65))], [(m0, .map #[] 0)], B, B1, B2, Y, A])) :=
      SubA.trans (Sep.subs sp6 [1, 2, 3, 0, 4, 5, 6, 7] rfl) (SubA.app (SubA.fresh g5 (Sep.subs sp5 [0, 1, 2, 4, 5, 6, 7] rfl)))
    refine ⟨_, hS6, ?_⟩
    simp only [cat, List.cons_append, List.nil_append]
    intro ν3 fr3
    have fr := fr3
    have nuE := And.intro dm1 (And.intro dm2 (And.intro q1 (And.intro q2 (And.intro q3 (And.intro q4 (And.intro (fr.mem (b := n0) (by simp)) (And.intro (fr.mem (b := db) (by simp)) (And.intro (fr.mem (b := m0) (by simp)) fr.nu))))))))
    obtain ⟨rp', rcap', rfl, hrc', hrs'⟩ := ho3.read rsC_len
    simp (maxDischargeDepth := 16) only [argE_nil, argE_cons, ↓vmD, vmV, vmStd, Nat.reduceMul, ↓reduceIte, Nat.reduceAdd, Nat.reduceSub, Nat.reduceEqDiff, Nat.reduceLT, Nat.reduceLeDiff, reduceCtorEq, Int.reduceToNat, Int.reduceLT, Int.reduceLE, Int.reduceEq, Int.reduceNeg, Int.reduceBEq, Int.reduceBNe, String.reduceEq, forall_const, ↓vmDA, vmVA, ↓vmQA, vmR, vmRA, ↓vmSA, vmSV, tyS, nuE, SubA.skip, SubA.refl, fr.2, vbDsn, we]
    have sp7 : Sep [[(n0, (Obj.cells #[.string (bs x.d.code), .int .i64 x.d.d1, .int .i64 x.d.d2, .int .i64 x.d.d3, .int .i64 x.d.d4, .slice p1 x.d.cl.length cap1, .slice p2 x.d.df.length cap2] 57))], [(db, (Obj.cells #[.slice rp' (R ++ [(⟨x.d, p1, cap1, p2, cap2⟩ : Rs)]).length rcap', .slice none 0 0, .map (some m0)] 65))], [(m0, .map #[] 0)], B', B1, B2, Y, A] := Sep.set (l := [[(n0, (Obj.cells #[.string (bs x.d.code), .int .i64 x.d.d1, .int .i64 x.d.d2, .int .i64 x.d.d3, .int .i64 x.d.d4, .slice p1 x.d.cl.length cap1, .slice p2 x.d.df.length cap2] 57))], [(db, (Obj.cells #[.slice rp R.length rcap, .slice none 0 0, .map (some m0)] 65))], [(m0, .map #[] 0)], B', B1, B2, Y, A]) 1 [(db, (Obj.cells #[.slice rp' (R ++ [(⟨x.d, p1, cap1, p2, cap2⟩ : Rs)]).length rcap', .slice none 0 0, .map (some m0)] 65))] (Sep.pick sp6 [1, 2, 3, 0, 4, 5, 6, 7] rfl rfl) one_less
    have sp8 : Sep [[(db, (Obj.cells #[.slice rp' (R ++ [(⟨x.d, p1, cap1, p2, cap2⟩ : Rs)]).length rcap', .slice none 0 0, .map (some m0)] 65))], [(m0, .map #[] 0)], B', A, B1 ++ (B2 ++ Y)] := Sep.coarse (a := [_, _, _, _]) (m := [B1, B2, Y]) (Sep.pick sp7 [1, 2, 3, 7, 4, 5, 6] rfl rfl)
    have d12 : Dis B1 (B2 ++ Y) := (Sep.pick sp7 [4, 5, 6] rfl rfl).1 |> fun h => Dis.appr h.1 h.2.1
    have d2Y : Dis B2 Y := (Sep.pick sp7 [5, 6] rfl rfl).1.1
    refine LoopA.at (A := cat [[(db, (Obj.cells #[.slice rp' (R ++ [(⟨x.d, p1, cap1, p2, cap2⟩ : Rs)]).length rcap', .slice none 0 0, .map (some m0)] 65))], [(m0, .map #[] 0)], B', B1 ++ (B2 ++ Y), A]) ?_ ?_
    · simp only [cat, List.cons_append, List.nil_append, List.append_assoc]
      exact Sep.subs sp7 [1, 2, 3, 4, 5, 6, 7] rfl
    · refine LoopA.weak (ih (e + 1) _ B' (B1 ++ (B2 ++ Y)) (R ++ [⟨x.d, p1, cap1, p2, cap2⟩]) hd' (by omega) ho3 (fun r hr => ?_) (by rw [List.map_append, hRd, htk, List.map_append]; rfl) (Sep.pick sp8 [0, 1, 2, 4, 3] rfl rfl)) (by simp only [subE, get_cons, Nat.reduceEqDiff, ↓reduceIte, reduceCtorEq, Nat.reduceAdd, and_self, and_true]) (SubA.refl _)
      rcases List.mem_append.1 hr with h | h
      · exact (hY r h).mono (SubA.trans d2Y.right d12.right)
      · simp at h
        subst h
        exact ⟨hq1.mono (SubA.left _ _), hq2.mono (SubA.trans (SubA.left B2 Y) d12.right)⟩

end Go.Proofs.YtiholbpchhifiaaGreatDoor
