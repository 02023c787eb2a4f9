/-
Reasons: the examples hold.
Conditions: none.
-/
import Derived.Test.YtamiclgnehfhpaaDoorCmp
namespace Go.Proofs.YtamiclgnehfhpaaDoor
open Go.Vm
set_option linter.unusedSimpArgs false
set_option linter.unusedVariables false
set_option maxHeartbeats 4000000
set_option maxRecDepth 20000
theorem vbAwk : type_of% (And.intro @slIndexByte_v (And.intro @indexByte_v (And.intro @indexRune_v (And.intro @containsRune_v (And.intro @slHasPrefix_v (And.intro @hasPrefix_v (And.intro @classOf_v (And.intro @isWordByte_v (And.intro @letter_v (And.intro @digit_v (And.intro @wordAt_v (And.intro @rword_v (And.intro @skip_v (And.intro @rskip_v (And.intro @number_v (And.intro @rnumber_v (And.intro @literal_v (And.intro @rtext_v (And.intro @lexemeAt_v (And.intro @rlexeme_v (And.intro @isName_v (And.intro @risName_v (And.intro @possible_v (And.intro @days_v (And.intro @due_v (And.intro @rkind_v (And.intro @rdays_v (And.intro @rdaysS_v (And.intro @rdue_v (And.intro @soft_usd (And.intro @soft_ust (And.intro @cnvN_pu (And.intro @cnvN_up (@eqS_pp)))))))))))))))))))))))))))))))))) := And.intro @slIndexByte_v (And.intro @indexByte_v (And.intro @indexRune_v (And.intro @containsRune_v (And.intro @slHasPrefix_v (And.intro @hasPrefix_v (And.intro @classOf_v (And.intro @isWordByte_v (And.intro @letter_v (And.intro @digit_v (And.intro @wordAt_v (And.intro @rword_v (And.intro @skip_v (And.intro @rskip_v (And.intro @number_v (And.intro @rnumber_v (And.intro @literal_v (And.intro @rtext_v (And.intro @lexemeAt_v (And.intro @rlexeme_v (And.intro @isName_v (And.intro @risName_v (And.intro @possible_v (And.intro @days_v (And.intro @due_v (And.intro @rkind_v (And.intro @rdays_v (And.intro @rdaysS_v (And.intro @rdue_v (And.intro @soft_usd (And.intro @soft_ust (And.intro @cnvN_pu (And.intro @cnvN_up (@eqS_pp)))))))))))))))))))))))))))))))))
theorem parse_n (A : AH) (s : ByteArray) (hs : s.size ≤ 100000) : CallA Tryd.prog 25 #[.string s] A fun u D => ∃ v B, u = v ∧ (∃ p cap F, v = .tuple #[.slice p F.length cap, .int .i64 (parseF s).1, .int .i64 (parseF s).2.1] ∧ RsR B p F ∧ F.map Rs.d = (parseF s).2.2 ∧ (F.length ≤ cap ∧ cap ≤ 9223372036854775807) ∧ ∀ r ∈ F, r.d.cl.length ≤ 8 ∧ r.d.df.length ≤ 8) ∧ Dis B A ∧ SubA (B ++ A) D :=
  (parseP_h A s hs).mono fun u D ⟨v, F, VB, Y, h1, h2, h3, h4, h5, h6⟩ => by
    have hc := fun p k c (e : v = .slice p k c) => own_cap (e ▸ h2)
    obtain ⟨p, cap, rfl, k1, k2⟩ := h2.read rsC_len
    have d : Dis VB Y := h5.1.1
    refine ⟨u, VB ++ Y, rfl, ⟨p, cap, F, h1, ⟨k2.mono (SubA.left _ _), fun r hr => (h3 r hr).1.mono d.right⟩, h4, ⟨k1, hc _ _ _ rfl⟩, fun r hr => (h3 r hr).2⟩, Dis.app h5.1.2.1 h5.2.1.1, ?_⟩
    simpa only [cat, List.append_assoc] using h6
theorem fraud_n (A : AH) : CallA Tryd.prog 28 #[] A fun u D => ∃ v B, u = v ∧ (∃ r : Rs, v = .agg (rsC r).toArray ∧ r.d = frRn ∧ InR B r) ∧ Dis B A ∧ SubA (B ++ A) D :=
  CallA.useX fraudP_h (SubA.nil A) A (SubA.refl A) (fun x hx => rfl) fun v D ⟨r, B, h1, h2, h3, h4⟩ hd => ⟨B, h4, v, B, rfl, ⟨r, h1, h2, h3⟩, Dis.subl hd h4, SubA.refl _⟩
def ex1 : ByteArray := ⟨#[114, 101, 97, 115, 111, 110, 32, 102, 114, 97, 117, 100, 32, 49, 50, 48, 32, 52, 53, 32, 51, 48, 32, 51, 48, 32, 99, 108, 97, 105, 109, 32, 108, 101, 116, 116, 101, 114, 32, 112, 104, 111, 116, 111, 32, 100, 101, 102, 101, 110, 99, 101, 32, 114, 101, 99, 101, 105, 112, 116, 59, 10]⟩
def ex2 : ByteArray := ⟨#[114, 101, 97, 115, 111, 110, 32, 97, 32, 49, 32, 50, 32, 51, 32, 49, 48, 48, 49, 32, 99, 108, 97, 105, 109, 32, 100, 101, 102, 101, 110, 99, 101, 59]⟩
def ex3 : ByteArray := ⟨#[114, 101, 97, 115, 111, 110, 32, 97, 32, 49, 32, 50, 32, 51, 32, 52, 32, 99, 108, 97, 105, 109, 32, 120, 32, 120, 32, 100, 101, 102, 101, 110, 99, 101, 59]⟩
theorem ex1_p : parseF ex1 = (0, 0, [frRn]) := by kernel_rfl
theorem ex2_p : (parseF ex2).1 = 4 ∧ (parseF ex2).2.1 = 15 := by decide +kernel
theorem ex3_p : (parseF ex3).1 = 7 ∧ (parseF ex3).2.1 = 25 := by decide +kernel
theorem ex1_f : bs (fmtE [frRn]) = ex1 := by kernel_rfl
theorem fr_big {r : Rs} (h : r.d = frRn) : r.d.cl.length ≤ 8000000000000 ∧ r.d.df.length ≤ 8000000000000 := by rw [h]; decide
theorem awk44_h (A : AH) (hT : TabA A) : CallA Tryd.prog 10 #[] A (fun u_ A_ => u_ = .bool true ∧ SubA A A_) := by
  refine callA_of_denA ⟨Tryd.prog, 10, Tryd.f10, 105, [0, 1, 2, 3, 5, 6, 8, 9, 10, 11, 12, 13, 15], [25, 28, 23], [], _⟩ (args := []) Tryd.func10 rfl (by kernel_rfl) Tryd.ntmps10 (by simp) (by kernel_rfl) ?_
  intro ν fr; have nuE := fr.nu
  simp (maxDischargeDepth := 16) only [argE_nil, argE_cons, ↓vmD, vmV, vmStd, Nat.reduceMul, ↓reduceIte, Nat.reduceAdd, Nat.reduceSub, Nat.reduceEqDiff, Nat.reduceLT, Nat.reduceLeDiff, reduceCtorEq, Int.reduceToNat, Int.reduceLT, Int.reduceLE, Int.reduceEq, Int.reduceNeg, Int.reduceBEq, Int.reduceBNe, String.reduceEq, forall_const, ↓vmDA, vmVA, ↓vmQA, vmR, vmRA, ↓vmSA, vmSV, tyS, nuE, SubA.skip, SubA.refl, fr.2, vbAwk, ↓sA_usd, ↓sA_ust]
  clear nuE fr
  refine CallA.newX (parse_n A ex1 (by decide)) (SubA.refl A) ?_
  rintro v1 B1 ⟨p1, c1, F1, rfl, hR1, hd1, hc1, hb1⟩ hdB
  rw [ex1_p] at hd1 ⊢
  refine ⟨B1 ++ A, SubA.refl _, ?_⟩
  intro ν fr; have nuE := fr.nu
  simp (maxDischargeDepth := 16) only [argE_nil, argE_cons, ↓vmD, vmV, vmStd, Nat.reduceMul, ↓reduceIte, Nat.reduceAdd, Nat.reduceSub, Nat.reduceEqDiff, Nat.reduceLT, Nat.reduceLeDiff, reduceCtorEq, Int.reduceToNat, Int.reduceLT, Int.reduceLE, Int.reduceEq, Int.reduceNeg, Int.reduceBEq, Int.reduceBNe, String.reduceEq, forall_const, ↓vmDA, vmVA, ↓vmQA, vmR, vmRA, ↓vmSA, vmSV, tyS, nuE, SubA.skip, SubA.refl, fr.2, vbAwk, ↓sA_usd, ↓sA_ust]
  clear nuE fr
  refine CallA.newX (parse_n (B1 ++ A) ex2 (by decide)) (SubA.refl _) ?_
  rintro v2 B2 ⟨p2, c2, F2, rfl, hR2, hd2, hc2, hb2⟩ hdB2
  refine ⟨B1 ++ A, hdB2.right, ?_⟩
  rw [ex2_p.1, ex2_p.2]
  intro ν fr; have nuE := fr.nu
  simp (maxDischargeDepth := 16) only [argE_nil, argE_cons, ↓vmD, vmV, vmStd, Nat.reduceMul, ↓reduceIte, Nat.reduceAdd, Nat.reduceSub, Nat.reduceEqDiff, Nat.reduceLT, Nat.reduceLeDiff, reduceCtorEq, Int.reduceToNat, Int.reduceLT, Int.reduceLE, Int.reduceEq, Int.reduceNeg, Int.reduceBEq, Int.reduceBNe, String.reduceEq, forall_const, ↓vmDA, vmVA, ↓vmQA, vmR, vmRA, ↓vmSA, vmSV, tyS, nuE, SubA.skip, SubA.refl, fr.2, vbAwk, ↓sA_usd, ↓sA_ust]
  clear nuE fr
  refine CallA.newX (parse_n (B1 ++ A) ex3 (by decide)) (SubA.refl _) ?_
  rintro v3 B3 ⟨p3, c3, F3, rfl, hR3, hd3, hc3, hb3⟩ hdB3
  refine ⟨B1 ++ A, hdB3.right, ?_⟩
  rw [ex3_p.1, ex3_p.2]
  intro ν fr; have nuE := fr.nu
  simp (maxDischargeDepth := 16) only [argE_nil, argE_cons, ↓vmD, vmV, vmStd, Nat.reduceMul, ↓reduceIte, Nat.reduceAdd, Nat.reduceSub, Nat.reduceEqDiff, Nat.reduceLT, Nat.reduceLeDiff, reduceCtorEq, Int.reduceToNat, Int.reduceLT, Int.reduceLE, Int.reduceEq, Int.reduceNeg, Int.reduceBEq, Int.reduceBNe, String.reduceEq, forall_const, ↓vmDA, vmVA, ↓vmQA, vmR, vmRA, ↓vmSA, vmSV, tyS, nuE, SubA.skip, SubA.refl, fr.2, vbAwk, ↓sA_usd, ↓sA_ust]
  clear nuE fr
  refine CallA.newX (fraud_n (B1 ++ A)) (SubA.refl _) ?_
  rintro v4 B4 ⟨r, rfl, hrd, hin⟩ hdB4
  refine ⟨B1 ++ A, hdB4.right, ?_⟩
  have e1 : dueF r.d 0 100 = (220, 0) := by rw [hrd]; decide
  intro ν fr; have nuE := fr.nu
  simp (maxDischargeDepth := 16) only [argE_nil, argE_cons, ↓vmD, vmV, vmStd, Nat.reduceMul, ↓reduceIte, Nat.reduceAdd, Nat.reduceSub, Nat.reduceEqDiff, Nat.reduceLT, Nat.reduceLeDiff, reduceCtorEq, Int.reduceToNat, Int.reduceLT, Int.reduceLE, Int.reduceEq, Int.reduceNeg, Int.reduceBEq, Int.reduceBNe, String.reduceEq, forall_const, ↓vmDA, vmVA, ↓vmQA, vmR, vmRA, ↓vmSA, vmSV, tyS, nuE, SubA.skip, SubA.refl, fr.2, vbAwk, ↓sA_usd, ↓sA_ust, rsC, e1]
  clear nuE fr e1 hdB4 hin hrd r
  refine CallA.newX (fraud_n (B1 ++ A)) (SubA.refl _) ?_
  rintro v4 B4 ⟨r, rfl, hrd, hin⟩ hdB4
  refine ⟨B1 ++ A, hdB4.right, ?_⟩
  have e1 : dueF r.d 1 100 = (145, 0) := by rw [hrd]; decide
  intro ν fr; have nuE := fr.nu
  simp (maxDischargeDepth := 16) only [argE_nil, argE_cons, ↓vmD, vmV, vmStd, Nat.reduceMul, ↓reduceIte, Nat.reduceAdd, Nat.reduceSub, Nat.reduceEqDiff, Nat.reduceLT, Nat.reduceLeDiff, reduceCtorEq, Int.reduceToNat, Int.reduceLT, Int.reduceLE, Int.reduceEq, Int.reduceNeg, Int.reduceBEq, Int.reduceBNe, String.reduceEq, forall_const, ↓vmDA, vmVA, ↓vmQA, vmR, vmRA, ↓vmSA, vmSV, tyS, nuE, SubA.skip, SubA.refl, fr.2, vbAwk, ↓sA_usd, ↓sA_ust, rsC, e1]
  clear nuE fr e1 hdB4 hin hrd r
  refine CallA.newX (fraud_n (B1 ++ A)) (SubA.refl _) ?_
  rintro v4 B4 ⟨r, rfl, hrd, hin⟩ hdB4
  refine ⟨B1 ++ A, hdB4.right, ?_⟩
  have e1 : daysF r.d 4 = (0, 8) := by rw [hrd]; decide
  intro ν fr; have nuE := fr.nu
  simp (maxDischargeDepth := 16) only [argE_nil, argE_cons, ↓vmD, vmV, vmStd, Nat.reduceMul, ↓reduceIte, Nat.reduceAdd, Nat.reduceSub, Nat.reduceEqDiff, Nat.reduceLT, Nat.reduceLeDiff, reduceCtorEq, Int.reduceToNat, Int.reduceLT, Int.reduceLE, Int.reduceEq, Int.reduceNeg, Int.reduceBEq, Int.reduceBNe, String.reduceEq, forall_const, ↓vmDA, vmVA, ↓vmQA, vmR, vmRA, ↓vmSA, vmSV, tyS, nuE, SubA.skip, SubA.refl, fr.2, vbAwk, ↓sA_usd, ↓sA_ust, rsC, e1]
  clear nuE fr e1 hdB4 hin hrd r
  refine CallA.newX (fraud_n (B1 ++ A)) (SubA.refl _) ?_
  rintro v4 B4 ⟨r, rfl, hrd, hin⟩ hdB4
  refine ⟨B4 ++ (B1 ++ A), SubA.refl _, ?_⟩
  intro ν fr; have nuE := fr.nu
  have f0 : Vm.look (B4 ++ (B1 ++ A)) (ν 0) = none := fr.2 0
  have s0 : ∀ o, SubA (B4 ++ (B1 ++ A)) ((ν 0, o) :: (B4 ++ (B1 ++ A))) := fun o => SubA.fresh f0 (SubA.refl _)
  have hRr : RsR ((ν 0, rC r) :: (B4 ++ (B1 ++ A))) (some ⟨ν 0, 0, none⟩) [r] := by
    have o : OwnL rsC 7 27 (.slice (some ⟨ν 0, 0, none⟩) 1 1) [(ν 0, .cells (rsC r).toArray 27)] [r] := .inl (OwnA.at (n := 1) (by simp [rsC]) (by simp [maxLen]))
    obtain ⟨p, cap, e, _, hs⟩ := o.read rsC_len
    cases e
    refine ⟨hs.mono (SubA.left [_] _), fun z hz => ?_⟩
    simp at hz
    subst hz
    exact hin.mono (SubA.trans (SubA.left _ _) (s0 _))
  have hFl : F1.length = 1 := by have := congrArg List.length hd1; simpa using this
  have e7 : valA Tryd.prog 27 #[.slice p1 F1.length c1, .slice (some ⟨ν 0, 0, none⟩) 1 1] ((ν 0, rC r) :: (B4 ++ (B1 ++ A))) = some (.bool true) := eqTab_v ((ν 0, rC r) :: (B4 ++ (B1 ++ A))) F1 [r] p1 c1 (some ⟨ν 0, 0, none⟩) 1 (hR1.mono (SubA.trans (SubA.trans (SubA.left B1 A) hdB4.right) (s0 _))) hRr (by rw [hd1]; simp [hrd]) (by omega)
  have e8 := fmtP_w (B1 ++ A) (hT.mono hdB.right) F1 p1 c1 (hR1.mono (SubA.left _ _)) hc1 ((ν 0, rC r) :: (B4 ++ (B1 ++ A))) (SubA.trans hdB4.right (s0 _))
  rw [hd1, ex1_f] at e8
  simp only [ex1] at e8
  simp only [rC, rsC] at e7 e8
  simp (maxDischargeDepth := 16) only [argE_nil, argE_cons, ↓vmD, vmV, vmStd, Nat.reduceMul, ↓reduceIte, Nat.reduceAdd, Nat.reduceSub, Nat.reduceEqDiff, Nat.reduceLT, Nat.reduceLeDiff, reduceCtorEq, Int.reduceToNat, Int.reduceLT, Int.reduceLE, Int.reduceEq, Int.reduceNeg, Int.reduceBEq, Int.reduceBNe, String.reduceEq, forall_const, ↓vmDA, vmVA, ↓vmQA, vmR, vmRA, ↓vmSA, vmSV, tyS, nuE, SubA.skip, SubA.refl, fr.2, vbAwk, ↓sA_usd, ↓sA_ust, rsC, sc_rs, e7, e8]
  refine CallA.newX (fraud_n _) (SubA.refl _) ?_
  rintro v5 B5 ⟨z, rfl, hzd, hzin⟩ hdB5
  refine ⟨B5 ++ (B1 ++ A), SubA.app (SubA.trans hdB4.right (s0 _)), ?_⟩
  clear nuE fr e7 e8
  intro ν fr; have nuE := fr.nu
  simp (maxDischargeDepth := 16) only [argE_nil, argE_cons, ↓vmD, vmV, vmStd, Nat.reduceMul, ↓reduceIte, Nat.reduceAdd, Nat.reduceSub, Nat.reduceEqDiff, Nat.reduceLT, Nat.reduceLeDiff, reduceCtorEq, Int.reduceToNat, Int.reduceLT, Int.reduceLE, Int.reduceEq, Int.reduceNeg, Int.reduceBEq, Int.reduceBNe, String.reduceEq, forall_const, ↓vmDA, vmVA, ↓vmQA, vmR, vmRA, ↓vmSA, vmSV, tyS, nuE, SubA.skip, SubA.refl, fr.2, vbAwk, ↓sA_usd, ↓sA_ust, rsC]
  refine CallA.newX (needs_h (B5 ++ (B1 ++ A)) z 2 (hzin.mono (SubA.left _ _)) (fr_big hzd)) (SubA.refl _) ?_
  intro v6 B6 ho6 hd6
  obtain ⟨q6, c6, rfl, hq6⟩ := own_tx ho6
  refine ⟨B6 ++ (B5 ++ (B1 ++ A)), SubA.refl _, ?_⟩
  clear nuE fr
  have hnd : needsF z.d 2 = [[114, 101, 99, 101, 105, 112, 116]] := by rw [hzd]; decide
  rw [hnd] at hq6 ⊢
  intro ν fr; have nuE := fr.nu
  have g0 : Vm.look (B6 ++ (B5 ++ (B1 ++ A))) (ν 0) = none := fr.2 0
  have e9 : valA Tryd.prog 22 #[.slice q6 1 c6, .slice (some ⟨ν 0, 0, none⟩) 1 1] ((ν 0, Obj.cells #[.string ⟨#[114, 101, 99, 101, 105, 112, 116]⟩] 9) :: (B6 ++ (B5 ++ (B1 ++ A)))) = some (.bool true) := eqT13_v _ [[114, 101, 99, 101, 105, 112, 116]] q6 c6 (some ⟨ν 0, 0, none⟩) 1 (hq6.mono (SubA.trans (SubA.left _ _) (SubA.fresh g0 (SubA.refl _)))) ((TxR.at (ν 0) 9 [[114, 101, 99, 101, 105, 112, 116]] (by decide)).mono (SubA.left [_] _))
  simp (maxDischargeDepth := 16) only [argE_nil, argE_cons, ↓vmD, vmV, vmStd, Nat.reduceMul, ↓reduceIte, Nat.reduceAdd, Nat.reduceSub, Nat.reduceEqDiff, Nat.reduceLT, Nat.reduceLeDiff, reduceCtorEq, Int.reduceToNat, Int.reduceLT, Int.reduceLE, Int.reduceEq, Int.reduceNeg, Int.reduceBEq, Int.reduceBNe, String.reduceEq, forall_const, ↓vmDA, vmVA, ↓vmQA, vmR, vmRA, ↓vmSA, vmSV, tyS, nuE, SubA.skip, SubA.refl, fr.2, vbAwk, ↓sA_usd, ↓sA_ust, sc_s1, e9, List.length_singleton]
  exact SubA.fresh g0 (SubA.trans (SubA.trans hdB.right (Dis.subr hdB5 (SubA.trans hdB4.right (s0 _))).right) hd6.right)
theorem awk44_w (A : AH) (hT : TabA A) (B_ : AH) (hB_ : SubA A B_) : valA Tryd.prog 10 #[] B_ = some (.bool true) := valA_eq (pureA_at (by kernel_rfl) (awk44_h A hT) hB_)
theorem awk44_v (A : AH) (hT : TabA A) : valA Tryd.prog 10 #[] A = some (.bool true) := valA_eq (pureA_at (by kernel_rfl) (awk44_h A hT) (SubA.refl _))
end Go.Proofs.YtamiclgnehfhpaaDoor
