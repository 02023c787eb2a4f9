/-
Disputes: the walk of Step.
Conditions: none.
-/
import Derived.Test.YtiholbpchhifiaaGreatDoorDsp
namespace Go.Proofs.YtiholbpchhifiaaGreatDoor
open Go.Vm
set_option linter.unusedSimpArgs false
set_option linter.unusedVariables false
set_option maxHeartbeats 4000000
set_option maxRecDepth 20000
theorem vbDss : type_of% (And.intro @slIndexByte_v (And.intro @indexByte_v (And.intro @indexRune_v (And.intro @containsRune_v (And.intro @classOf_v (And.intro @isWordByte_v (And.intro @wordAt_v (And.intro @isName_v (And.intro @possible_v (And.intro @days_v (And.intro @due_v (And.intro @evName_v (And.intro @evCheck_v (And.intro @dNext_v (And.intro @recId_v (And.intro @moneyCur_v (And.intro @inTotal_v (And.intro @exCard_v (And.intro @recCheck_v (@dspId_v)))))))))))))))))))) := And.intro @slIndexByte_v (And.intro @indexByte_v (And.intro @indexRune_v (And.intro @containsRune_v (And.intro @classOf_v (And.intro @isWordByte_v (And.intro @wordAt_v (And.intro @isName_v (And.intro @possible_v (And.intro @days_v (And.intro @due_v (And.intro @evName_v (And.intro @evCheck_v (And.intro @dNext_v (And.intro @recId_v (And.intro @moneyCur_v (And.intro @inTotal_v (And.intro @exCard_v (And.intro @recCheck_v (@dspId_v)))))))))))))))))))
theorem find_big {R : List Rs} (hb : BigR R) {code : Txt} {w : Rs} (h : w.d = (findR code (R.map Rs.d)).getD noRn) : w.d.cl.length ≤ 8000000000000 ∧ w.d.df.length ≤ 8000000000000 := by
  cases hf : findR code (R.map Rs.d) with
  | none => rw [hf] at h; rw [h]; exact ⟨by simp [noRn], by simp [noRn]⟩
  | some y =>
    rw [hf] at h
    obtain ⟨hy, _⟩ := findR_some hf
    obtain ⟨z, hz, rfl⟩ := List.mem_map.1 hy
    rw [h]
    exact hb z hz
theorem stepP_h (E : AH) (X : AH) (db : Nat) (fv : Value) (R : List Rs) (F : List Fo) (hE : DkP E db fv R F) (hEX : Dis E X) (hF : FdsOk (F.map Fo.d)) (id : Txt) (event date : Int) (L : List Itm) (p : Option Addr) (cap : Nat) (hL : StR itC 3 X p L) : CallA Tryz.prog 10 #[.pointer (some ⟨db, 0, none⟩), .string (bs id), .int .i64 event, .int .i64 date, .slice p L.length cap] (E ++ X) (fun u_ A_ => OpenP X db R (F.map Fo.d) u_ A_ (stepX (R.map Rs.d) (F.map Fo.d) id event date L)) := by
  refine callA_of_denA ⟨Tryz.prog, 10, Tryz.f10, 107, [0, 1, 2, 3, 4, 10, 11, 12, 13, 14, 15, 16, 17], [20, 27, 28], [], _⟩ (args := [_, _, _, _, _]) Tryz.func10 rfl (by kernel_rfl) Tryz.ntmps10 (by simp) (by kernel_rfl) ?_
  intro ν fr; have nuE := fr.nu
  obtain ⟨rp, rcap, pr, es, cl, M, fp, fcap, rfl, hc, l1', l2', hm, hmo, hR', hb, hrc, hr32, hs, hsv⟩ := hE.out
  have l1 := SubA.left E X _ _ l1'
  have l2 := SubA.left E X _ _ l2'
  have hR := hR'.mono (SubA.left E X)
  have lk := rdA_lookup (s := bs id) (A := E ++ X) (ok := true) (es := es) (cl := cl) (r := pr) und_mi und_st zro3 l2 hm
  rw [hmo id] at lk
  cases hp : posF id (F.map Fo.d) with
  | none =>
    have hx : stepX (R.map Rs.d) (F.map Fo.d) id event date L = (6, F.map Fo.d) := by unfold stepX; rw [hp]
    simp only [hp, Option.map_none, Option.getD_none, Option.isSome_none, if_true] at lk
    rw [hx]
    simp (maxDischargeDepth := 16) only [argE_nil, argE_cons, ↓vmD, vmV, vmStd, Nat.reduceMul, ↓reduceIte, Nat.reduceAdd, Nat.reduceSub, Nat.reduceEqDiff, Nat.reduceLT, Nat.reduceLeDiff, reduceCtorEq, Int.reduceToNat, Int.reduceLT, Int.reduceLE, Int.reduceEq, Int.reduceNeg, Int.reduceBEq, Int.reduceBNe, String.reduceEq, forall_const, ↓vmDA, vmVA, ↓vmQA, vmR, vmRA, ↓vmSA, vmSV, tyS, nuE, SubA.skip, SubA.refl, fr.2, vbDss, l1, lk]
    exact ⟨E, _, F, hE, rfl, hEX, SubA.refl _⟩
  | some i =>
  obtain ⟨g, hg, hid⟩ := posF_some hp
  have hx : stepX (R.map Rs.d) (F.map Fo.d) id event date L = if stepE (R.map Rs.d) g event date L ≠ 0 then (stepE (R.map Rs.d) g event date L, F.map Fo.d) else (0, (F.map Fo.d).set i (enterX (R.map Rs.d) g (nextF g.c.st event).1 date)) := by unfold stepX; rw [hp]; simp only [hg]
  rw [List.getElem?_map, Option.map_eq_some_iff] at hg
  obtain ⟨f, hf, rfl⟩ := hg
  simp only [hp, Option.map_some, Option.getD_some, Option.isSome_some, if_true] at lk
  have hlt := (List.getElem?_eq_some_iff.1 hf).1
  obtain ⟨ok1, ok2, ok3, ok4, ok5⟩ := hF.1 f.d (List.mem_map_of_mem (List.mem_of_getElem? hf))
  obtain ⟨fb, fcap', cur, e, lfb', hcs, hcc, hcall⟩ := hE.enter hf (by omega)
  cases e
  have lfb := SubA.left E X _ _ lfb'
  have li : ((i : Int) < 0) = False := eq_false (by omega)
  have li2 : ((i : Int) < (F.length : Int)) = True := eq_true (by omega)
  have c7 : cur[i * 12 + 7]? = some (.int .i64 f.d.c.st) := hcc 7 _ rfl
  have c11 : cur[i * 12 + 11]? = some (.int .i64 f.d.last) := hcc 11 _ rfl
  have c9 : cur[i * 12 + 9]? = some (.int .i64 f.d.c.du) := hcc 9 _ rfl
  have c2 : cur[i * 12 + 2]? = some (.string (bs f.d.c.rea)) := hcc 2 _ rfl
  have bad : ∀ A' k, SubA (E ++ X) A' → stepE (R.map Rs.d) f.d event date L = k → k ≠ 0 → OpenP X db R (F.map Fo.d) (.int .i64 k) A' (stepX (R.map Rs.d) (F.map Fo.d) id event date L) := fun A' k hA' hk h0 => by
    rw [hx, if_pos (by rw [hk]; exact h0), hk]
    exact ⟨rfl, E, _, F, hE, rfl, hEX, hA'⟩
  by_cases k1 : event < 1
  · simp (maxDischargeDepth := 16) only [argE_nil, argE_cons, ↓vmD, vmV, vmStd, Nat.reduceMul, ↓reduceIte, Nat.reduceAdd, Nat.reduceSub, Nat.reduceEqDiff, Nat.reduceLT, Nat.reduceLeDiff, reduceCtorEq, Int.reduceToNat, Int.reduceLT, Int.reduceLE, Int.reduceEq, Int.reduceNeg, Int.reduceBEq, Int.reduceBNe, String.reduceEq, forall_const, ↓vmDA, vmVA, ↓vmQA, vmR, vmRA, ↓vmSA, vmSV, tyS, nuE, SubA.skip, SubA.refl, fr.2, vbDss, l1, lk, li, li2, eq_true k1]
    exact bad _ _ (SubA.refl _) (if_pos (.inl k1)) (by decide)
  by_cases k2 : 6 < event
  · simp (maxDischargeDepth := 16) only [argE_nil, argE_cons, ↓vmD, vmV, vmStd, Nat.reduceMul, ↓reduceIte, Nat.reduceAdd, Nat.reduceSub, Nat.reduceEqDiff, Nat.reduceLT, Nat.reduceLeDiff, reduceCtorEq, Int.reduceToNat, Int.reduceLT, Int.reduceLE, Int.reduceEq, Int.reduceNeg, Int.reduceBEq, Int.reduceBNe, String.reduceEq, forall_const, ↓vmDA, vmVA, ↓vmQA, vmR, vmRA, ↓vmSA, vmSV, tyS, nuE, SubA.skip, SubA.refl, fr.2, vbDss, l1, lk, li, li2, eq_false k1, eq_true k2]
    exact bad _ _ (SubA.refl _) (if_pos (.inr k2)) (by decide)
  by_cases k3 : (nextF f.d.c.st event).2 = 0
  rotate_left
  · simp (maxDischargeDepth := 16) only [argE_nil, argE_cons, ↓vmD, vmV, vmStd, Nat.reduceMul, ↓reduceIte, Nat.reduceAdd, Nat.reduceSub, Nat.reduceEqDiff, Nat.reduceLT, Nat.reduceLeDiff, reduceCtorEq, Int.reduceToNat, Int.reduceLT, Int.reduceLE, Int.reduceEq, Int.reduceNeg, Int.reduceBEq, Int.reduceBNe, String.reduceEq, forall_const, ↓vmDA, vmVA, ↓vmQA, vmR, vmRA, ↓vmSA, vmSV, tyS, nuE, SubA.skip, SubA.refl, fr.2, vbDss, l1, lk, li, li2, eq_false k1, eq_false k2, lfb, c7, eq_false k3]
    exact bad _ _ (SubA.refl _) (by unfold stepE; rw [if_neg (by omega), if_pos k3]) (by decide)
  by_cases k4 : date < 0
  · simp (maxDischargeDepth := 16) only [argE_nil, argE_cons, ↓vmD, vmV, vmStd, Nat.reduceMul, ↓reduceIte, Nat.reduceAdd, Nat.reduceSub, Nat.reduceEqDiff, Nat.reduceLT, Nat.reduceLeDiff, reduceCtorEq, Int.reduceToNat, Int.reduceLT, Int.reduceLE, Int.reduceEq, Int.reduceNeg, Int.reduceBEq, Int.reduceBNe, String.reduceEq, forall_const, ↓vmDA, vmVA, ↓vmQA, vmR, vmRA, ↓vmSA, vmSV, tyS, nuE, SubA.skip, SubA.refl, fr.2, vbDss, l1, lk, li, li2, eq_false k1, eq_false k2, lfb, c7, k3, eq_true k4]
    exact bad _ _ (SubA.refl _) (by unfold stepE; rw [if_neg (by omega), if_neg (by simpa using k3), if_pos (.inl k4)]) (by decide)
  by_cases k5 : 99999 < date
  · simp (maxDischargeDepth := 16) only [argE_nil, argE_cons, ↓vmD, vmV, vmStd, Nat.reduceMul, ↓reduceIte, Nat.reduceAdd, Nat.reduceSub, Nat.reduceEqDiff, Nat.reduceLT, Nat.reduceLeDiff, reduceCtorEq, Int.reduceToNat, Int.reduceLT, Int.reduceLE, Int.reduceEq, Int.reduceNeg, Int.reduceBEq, Int.reduceBNe, String.reduceEq, forall_const, ↓vmDA, vmVA, ↓vmQA, vmR, vmRA, ↓vmSA, vmSV, tyS, nuE, SubA.skip, SubA.refl, fr.2, vbDss, l1, lk, li, li2, eq_false k1, eq_false k2, lfb, c7, k3, eq_false k4, eq_true k5]
    exact bad _ _ (SubA.refl _) (by unfold stepE; rw [if_neg (by omega), if_neg (by simpa using k3), if_pos (.inr (.inl k5))]) (by decide)
  by_cases k6 : date < f.d.last
  · simp (maxDischargeDepth := 16) only [argE_nil, argE_cons, ↓vmD, vmV, vmStd, Nat.reduceMul, ↓reduceIte, Nat.reduceAdd, Nat.reduceSub, Nat.reduceEqDiff, Nat.reduceLT, Nat.reduceLeDiff, reduceCtorEq, Int.reduceToNat, Int.reduceLT, Int.reduceLE, Int.reduceEq, Int.reduceNeg, Int.reduceBEq, Int.reduceBNe, String.reduceEq, forall_const, ↓vmDA, vmVA, ↓vmQA, vmR, vmRA, ↓vmSA, vmSV, tyS, nuE, SubA.skip, SubA.refl, fr.2, vbDss, l1, lk, li, li2, eq_false k1, eq_false k2, lfb, c7, k3, eq_false k4, eq_false k5, c11, eq_true k6]
    exact bad _ _ (SubA.refl _) (by unfold stepE; rw [if_neg (by omega), if_neg (by simpa using k3), if_pos (.inr (.inr k6))]) (by decide)
  have hst : stepE (R.map Rs.d) f.d event date L = if event ≤ 4 ∧ f.d.c.du < date then 24 else if suffF L (if event = 1 then needsF ((findR f.d.c.rea (R.map Rs.d)).getD noRn) 2 else []) = false then 25 else 0 := by
    unfold stepE; rw [if_neg (by omega), if_neg (by simpa using k3), if_neg (by omega)]
  by_cases k7 : event ≤ 4 ∧ f.d.c.du < date
  · simp (maxDischargeDepth := 16) only [argE_nil, argE_cons, ↓vmD, vmV, vmStd, Nat.reduceMul, ↓reduceIte, Nat.reduceAdd, Nat.reduceSub, Nat.reduceEqDiff, Nat.reduceLT, Nat.reduceLeDiff, reduceCtorEq, Int.reduceToNat, Int.reduceLT, Int.reduceLE, Int.reduceEq, Int.reduceNeg, Int.reduceBEq, Int.reduceBNe, String.reduceEq, forall_const, ↓vmDA, vmVA, ↓vmQA, vmR, vmRA, ↓vmSA, vmSV, tyS, nuE, SubA.skip, SubA.refl, fr.2, vbDss, l1, lk, li, li2, eq_false k1, eq_false k2, lfb, c7, k3, eq_false k4, eq_false k5, c11, eq_false k6, eq_true k7.1, c9, eq_true k7.2]
    exact bad _ _ (SubA.refl _) (by rw [hst, if_pos k7]) (by decide)
  rw [if_neg k7] at hst
  have k7' : (event ≤ 4 ∧ f.d.c.du < date) = False := eq_false k7
  by_cases k8 : event = 1
  · have k9 : (f.d.c.du < date) = False := eq_false (by omega)
    have k10 : (event ≤ 4) = True := eq_true (by omega)
    rw [if_pos k8] at hst
    have tail : ∀ (w : Rs) (B A' : AH), w.d = (findR f.d.c.rea (R.map Rs.d)).getD noRn → InR (B ++ (E ++ X)) w → Dis B (E ++ X) → SubA (B ++ (E ++ X)) A' → ∀ K : Value → AH → Prop, (∀ q2 cap2 B2, TxR B2 q2 cap2 (needsF w.d 2) → Dis B2 (E ++ X) → K (.slice q2 (needsF w.d 2).length cap2) (B2 ++ (E ++ X))) → CallA Tryz.prog 28 #[.agg (rsC w).toArray, .int .i64 2] A' K := fun w B A' hrd hin hd hA' K hK => by
      refine CallA.newX (needs_h (B ++ (E ++ X)) w 2 hin (find_big hb hrd)) hA' ?_
      intro v2 B2 ho2 hd2
      obtain ⟨q2, cap2, rfl, hq2⟩ := own_tx ho2
      exact ⟨B2 ++ (E ++ X), SubA.app (SubA.trans hd.right hA'), hK q2 cap2 B2 hq2 (Dis.subr hd2 (SubA.trans hd.right hA'))⟩
    simp (maxDischargeDepth := 16) only [argE_nil, argE_cons, ↓vmD, vmV, vmStd, Nat.reduceMul, ↓reduceIte, Nat.reduceAdd, Nat.reduceSub, Nat.reduceEqDiff, Nat.reduceLT, Nat.reduceLeDiff, reduceCtorEq, Int.reduceToNat, Int.reduceLT, Int.reduceLE, Int.reduceEq, Int.reduceNeg, Int.reduceBEq, Int.reduceBNe, String.reduceEq, forall_const, ↓vmDA, vmVA, ↓vmQA, vmR, vmRA, ↓vmSA, vmSV, tyS, nuE, SubA.skip, SubA.refl, fr.2, vbDss, l1, lk, li, li2, eq_false k1, eq_false k2, lfb, c7, k3, eq_false k4, eq_false k5, c11, eq_false k6, eq_true k8, c9, k9, k10]
    refine MeantA.tree [9, 14] (.one 0 0 (.one 1 0 (.one 2 0 (.one 3 0 (.one 4 0 (.one 5 0 (.one 6 0 (.one 7 0 (.one 8 0 (.two 9 2 (.one 10 0 (.one 11 0 (.one 12 0 (.one 13 1 (.one 14 2 (.one 15 0 .nil)))))) 13 1 (.one 9 2 (.one 10 0 (.one 11 0 (.one 12 0 (.one 14 2 (.one 15 0 .nil)))))))))))))))) _ (SubA.refl _) (by kernel_rfl) (by kernel_rfl) (by kernel_rfl) (by kernel_rfl) (by kernel_rfl) ?_
    intro ν fr; have nuE := fr.nu
    simp (maxDischargeDepth := 16) only [argE_nil, argE_cons, ↓vmD, vmV, vmStd, Nat.reduceMul, ↓reduceIte, Nat.reduceAdd, Nat.reduceSub, Nat.reduceEqDiff, Nat.reduceLT, Nat.reduceLeDiff, reduceCtorEq, Int.reduceToNat, Int.reduceLT, Int.reduceLE, Int.reduceEq, Int.reduceNeg, Int.reduceBEq, Int.reduceBNe, String.reduceEq, forall_const, ↓vmDA, vmVA, ↓vmQA, vmR, vmRA, ↓vmSA, vmSV, tyS, nuE, SubA.skip, SubA.refl, fr.2, vbDss, tA_nil, tA_one, tA_two, l1, lfb, c2]
    refine ⟨?_, ?_⟩
    · refine CallA.newX (find_n (E ++ X) R rp rcap f.d.c.rea hR hb (by omega)) (SubA.refl _) ?_
      rintro v B ⟨w, rfl, hrd, hin⟩ hd
      refine ⟨_, SubA.refl _, ?_⟩
      intro ν fr; have nuE := fr.nu
      simp (maxDischargeDepth := 16) only [argE_nil, argE_cons, ↓vmD, vmV, vmStd, Nat.reduceMul, ↓reduceIte, Nat.reduceAdd, Nat.reduceSub, Nat.reduceEqDiff, Nat.reduceLT, Nat.reduceLeDiff, reduceCtorEq, Int.reduceToNat, Int.reduceLT, Int.reduceLE, Int.reduceEq, Int.reduceNeg, Int.reduceBEq, Int.reduceBNe, String.reduceEq, forall_const, ↓vmDA, vmVA, ↓vmQA, vmR, vmRA, ↓vmSA, vmSV, tyS, nuE, SubA.skip, SubA.refl, fr.2, vbDss, rsC]
      refine tail w B _ hrd hin hd (SubA.fresh (fr.2 0) (SubA.refl _)) _ ?_
      intro q2 cap2 B2 hq2 dB2
      intro ν fr; have nuE := fr.nu
      have sv := suff_w (B2 ++ (E ++ X)) L p cap (hL.mono (SubA.trans hEX.right dB2.right)) (needsF w.d 2) q2 cap2 (hq2.mono (SubA.left _ _)) _ (SubA.refl _)
      cases h4 : suffF L (needsF w.d 2) with
      | false =>
        rw [h4] at sv
        simp (maxDischargeDepth := 16) only [argE_nil, argE_cons, ↓vmD, vmV, vmStd, Nat.reduceMul, ↓reduceIte, Nat.reduceAdd, Nat.reduceSub, Nat.reduceEqDiff, Nat.reduceLT, Nat.reduceLeDiff, reduceCtorEq, Int.reduceToNat, Int.reduceLT, Int.reduceLE, Int.reduceEq, Int.reduceNeg, Int.reduceBEq, Int.reduceBNe, String.reduceEq, forall_const, ↓vmDA, vmVA, ↓vmQA, vmR, vmRA, ↓vmSA, vmSV, tyS, nuE, SubA.skip, SubA.refl, fr.2, vbDss, sv]
        exact bad _ _ dB2.right (by rw [hst, ← hrd, h4]; rfl) (by decide)
      | true =>
        rw [h4] at sv
        simp (maxDischargeDepth := 16) only [argE_nil, argE_cons, ↓vmD, vmV, vmStd, Nat.reduceMul, ↓reduceIte, Nat.reduceAdd, Nat.reduceSub, Nat.reduceEqDiff, Nat.reduceLT, Nat.reduceLeDiff, reduceCtorEq, Int.reduceToNat, Int.reduceLT, Int.reduceLE, Int.reduceEq, Int.reduceNeg, Int.reduceBEq, Int.reduceBNe, String.reduceEq, forall_const, ↓vmDA, vmVA, ↓vmQA, vmR, vmRA, ↓vmSA, vmSV, tyS, nuE, SubA.skip, SubA.refl, fr.2, vbDss, sv]
        refine CallA.stX ((hcall (nextF f.d.c.st event).1 date).mono fun v D ⟨E', h, hs, _⟩ => ⟨E', h, hs⟩) (SubA.trans (SubA.left E X) dB2.right) (SubA.trans hEX.right dB2.right) hEX ?_
        rintro v E2 ⟨rfl, ⟨sv2, B3, hE2⟩, hl2⟩ d2
        intro ν fr; have nuE := fr.nu
        simp (maxDischargeDepth := 16) only [argE_nil, argE_cons, ↓vmD, vmV, vmStd, Nat.reduceMul, ↓reduceIte, Nat.reduceAdd, Nat.reduceSub, Nat.reduceEqDiff, Nat.reduceLT, Nat.reduceLeDiff, reduceCtorEq, Int.reduceToNat, Int.reduceLT, Int.reduceLE, Int.reduceEq, Int.reduceNeg, Int.reduceBEq, Int.reduceBNe, String.reduceEq, forall_const, ↓vmDA, vmVA, ↓vmQA, vmR, vmRA, ↓vmSA, vmSV, tyS, nuE, SubA.skip, SubA.refl, fr.2, vbDss]
        rw [hx, if_neg (by rw [hst, ← hrd, h4]; simp)]
        exact ⟨rfl, E2, _, _, hE2, by rw [List.map_set], d2, SubA.refl _⟩
    · have f5 := fr.2 0
      have dst_ : True := (by simp [nuE]); generalize ν 0 = z0 at dst_  f5 ⊢
      clear nuE fr
      refine CallA.newX (find_n (E ++ X) R rp rcap f.d.c.rea hR hb (by omega)) (SubA.fresh f5 (SubA.refl _)) ?_
      rintro v B ⟨w, rfl, hrd, hin⟩ hd
      refine ⟨_, cons_out (Dis.headn hd), ?_⟩
      intro ν fr; have nuE := And.intro (fr.mem (b := z0) (by simp)) (fr.nu)
      simp (maxDischargeDepth := 16) only [argE_nil, argE_cons, ↓vmD, vmV, vmStd, Nat.reduceMul, ↓reduceIte, Nat.reduceAdd, Nat.reduceSub, Nat.reduceEqDiff, Nat.reduceLT, Nat.reduceLeDiff, reduceCtorEq, Int.reduceToNat, Int.reduceLT, Int.reduceLE, Int.reduceEq, Int.reduceNeg, Int.reduceBEq, Int.reduceBNe, String.reduceEq, forall_const, ↓vmDA, vmVA, ↓vmQA, vmR, vmRA, ↓vmSA, vmSV, tyS, nuE, SubA.skip, SubA.refl, fr.2, vbDss, rsC]
      refine tail w B _ hrd hin (Dis.tailn hd f5) (SubA.skip (look_app_none (Dis.headn hd) f5) (SubA.refl _)) _ ?_
      intro q2 cap2 B2 hq2 dB2
      intro ν fr; have nuE := fr.nu
      have sv := suff_w (B2 ++ (E ++ X)) L p cap (hL.mono (SubA.trans hEX.right dB2.right)) (needsF w.d 2) q2 cap2 (hq2.mono (SubA.left _ _)) _ (SubA.refl _)
      cases h4 : suffF L (needsF w.d 2) with
      | false =>
        rw [h4] at sv
        simp (maxDischargeDepth := 16) only [argE_nil, argE_cons, ↓vmD, vmV, vmStd, Nat.reduceMul, ↓reduceIte, Nat.reduceAdd, Nat.reduceSub, Nat.reduceEqDiff, Nat.reduceLT, Nat.reduceLeDiff, reduceCtorEq, Int.reduceToNat, Int.reduceLT, Int.reduceLE, Int.reduceEq, Int.reduceNeg, Int.reduceBEq, Int.reduceBNe, String.reduceEq, forall_const, ↓vmDA, vmVA, ↓vmQA, vmR, vmRA, ↓vmSA, vmSV, tyS, nuE, SubA.skip, SubA.refl, fr.2, vbDss, sv]
        exact bad _ _ dB2.right (by rw [hst, ← hrd, h4]; rfl) (by decide)
      | true =>
        rw [h4] at sv
        simp (maxDischargeDepth := 16) only [argE_nil, argE_cons, ↓vmD, vmV, vmStd, Nat.reduceMul, ↓reduceIte, Nat.reduceAdd, Nat.reduceSub, Nat.reduceEqDiff, Nat.reduceLT, Nat.reduceLeDiff, reduceCtorEq, Int.reduceToNat, Int.reduceLT, Int.reduceLE, Int.reduceEq, Int.reduceNeg, Int.reduceBEq, Int.reduceBNe, String.reduceEq, forall_const, ↓vmDA, vmVA, ↓vmQA, vmR, vmRA, ↓vmSA, vmSV, tyS, nuE, SubA.skip, SubA.refl, fr.2, vbDss, sv]
        refine CallA.stX ((hcall (nextF f.d.c.st event).1 date).mono fun v D ⟨E', h, hs, _⟩ => ⟨E', h, hs⟩) (SubA.trans (SubA.left E X) dB2.right) (SubA.trans hEX.right dB2.right) hEX ?_
        rintro v E2 ⟨rfl, ⟨sv2, B3, hE2⟩, hl2⟩ d2
        intro ν fr; have nuE := fr.nu
        simp (maxDischargeDepth := 16) only [argE_nil, argE_cons, ↓vmD, vmV, vmStd, Nat.reduceMul, ↓reduceIte, Nat.reduceAdd, Nat.reduceSub, Nat.reduceEqDiff, Nat.reduceLT, Nat.reduceLeDiff, reduceCtorEq, Int.reduceToNat, Int.reduceLT, Int.reduceLE, Int.reduceEq, Int.reduceNeg, Int.reduceBEq, Int.reduceBNe, String.reduceEq, forall_const, ↓vmDA, vmVA, ↓vmQA, vmR, vmRA, ↓vmSA, vmSV, tyS, nuE, SubA.skip, SubA.refl, fr.2, vbDss]
        rw [hx, if_neg (by rw [hst, ← hrd, h4]; simp)]
        exact ⟨rfl, E2, _, _, hE2, by rw [List.map_set], d2, SubA.refl _⟩
  · rw [if_neg k8] at hst
    have k10 : ((event ≤ 4) = True ∧ (f.d.c.du < date) = False) ∨ (event ≤ 4) = False := by
      by_cases h : event ≤ 4
      · exact .inl ⟨eq_true h, eq_false (by omega)⟩
      · exact .inr (eq_false h)
    have sv := suff_w (E ++ X) L p cap (hL.mono hEX.right) [] none 0 TxR.nil (E ++ X) (SubA.refl _)
    simp only [List.length_nil] at sv
    rcases k10 with ⟨k10, k11⟩ | k10
    all_goals
      first
        | simp (maxDischargeDepth := 16) only [argE_nil, argE_cons, ↓vmD, vmV, vmStd, Nat.reduceMul, ↓reduceIte, Nat.reduceAdd, Nat.reduceSub, Nat.reduceEqDiff, Nat.reduceLT, Nat.reduceLeDiff, reduceCtorEq, Int.reduceToNat, Int.reduceLT, Int.reduceLE, Int.reduceEq, Int.reduceNeg, Int.reduceBEq, Int.reduceBNe, String.reduceEq, forall_const, ↓vmDA, vmVA, ↓vmQA, vmR, vmRA, ↓vmSA, vmSV, tyS, nuE, SubA.skip, SubA.refl, fr.2, vbDss, l1, lk, li, li2, eq_false k1, eq_false k2, lfb, c7, k3, eq_false k4, eq_false k5, c11, eq_false k6, eq_false k8, c9, k10, k11]
        | simp (maxDischargeDepth := 16) only [argE_nil, argE_cons, ↓vmD, vmV, vmStd, Nat.reduceMul, ↓reduceIte, Nat.reduceAdd, Nat.reduceSub, Nat.reduceEqDiff, Nat.reduceLT, Nat.reduceLeDiff, reduceCtorEq, Int.reduceToNat, Int.reduceLT, Int.reduceLE, Int.reduceEq, Int.reduceNeg, Int.reduceBEq, Int.reduceBNe, String.reduceEq, forall_const, ↓vmDA, vmVA, ↓vmQA, vmR, vmRA, ↓vmSA, vmSV, tyS, nuE, SubA.skip, SubA.refl, fr.2, vbDss, l1, lk, li, li2, eq_false k1, eq_false k2, lfb, c7, k3, eq_false k4, eq_false k5, c11, eq_false k6, eq_false k8, c9, k10]
      cases h4 : suffF L (([] : List Txt)) with
      | false =>
        rw [h4] at sv
        simp (maxDischargeDepth := 16) only [argE_nil, argE_cons, ↓vmD, vmV, vmStd, Nat.reduceMul, ↓reduceIte, Nat.reduceAdd, Nat.reduceSub, Nat.reduceEqDiff, Nat.reduceLT, Nat.reduceLeDiff, reduceCtorEq, Int.reduceToNat, Int.reduceLT, Int.reduceLE, Int.reduceEq, Int.reduceNeg, Int.reduceBEq, Int.reduceBNe, String.reduceEq, forall_const, ↓vmDA, vmVA, ↓vmQA, vmR, vmRA, ↓vmSA, vmSV, tyS, nuE, SubA.skip, SubA.refl, fr.2, vbDss, sv]
        exact bad _ _ (SubA.refl _) (by rw [hst, h4]; rfl) (by decide)
      | true =>
        rw [h4] at sv
        simp (maxDischargeDepth := 16) only [argE_nil, argE_cons, ↓vmD, vmV, vmStd, Nat.reduceMul, ↓reduceIte, Nat.reduceAdd, Nat.reduceSub, Nat.reduceEqDiff, Nat.reduceLT, Nat.reduceLeDiff, reduceCtorEq, Int.reduceToNat, Int.reduceLT, Int.reduceLE, Int.reduceEq, Int.reduceNeg, Int.reduceBEq, Int.reduceBNe, String.reduceEq, forall_const, ↓vmDA, vmVA, ↓vmQA, vmR, vmRA, ↓vmSA, vmSV, tyS, nuE, SubA.skip, SubA.refl, fr.2, vbDss, sv]
        refine CallA.stX ((hcall (nextF f.d.c.st event).1 date).mono fun v D ⟨E', h, hs, _⟩ => ⟨E', h, hs⟩) (SubA.left E X) hEX.right hEX ?_
        rintro v E2 ⟨rfl, ⟨sv2, B3, hE2⟩, hl2⟩ d2
        intro ν fr; have nuE := fr.nu
        simp (maxDischargeDepth := 16) only [argE_nil, argE_cons, ↓vmD, vmV, vmStd, Nat.reduceMul, ↓reduceIte, Nat.reduceAdd, Nat.reduceSub, Nat.reduceEqDiff, Nat.reduceLT, Nat.reduceLeDiff, reduceCtorEq, Int.reduceToNat, Int.reduceLT, Int.reduceLE, Int.reduceEq, Int.reduceNeg, Int.reduceBEq, Int.reduceBNe, String.reduceEq, forall_const, ↓vmDA, vmVA, ↓vmQA, vmR, vmRA, ↓vmSA, vmSV, tyS, nuE, SubA.skip, SubA.refl, fr.2, vbDss]
        rw [hx, if_neg (by rw [hst, h4]; simp)]
        exact ⟨rfl, E2, _, _, hE2, by rw [List.map_set], d2, SubA.refl _⟩

end Go.Proofs.YtiholbpchhifiaaGreatDoor
