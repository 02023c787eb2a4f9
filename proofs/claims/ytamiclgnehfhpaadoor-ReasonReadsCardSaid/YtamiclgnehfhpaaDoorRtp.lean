/-
Reasons: the law of the round trip, and its walk.
Conditions: none.
-/
import Derived.Test.YtamiclgnehfhpaaDoorLwk
import Derived.Test.YtamiclgnehfhpaaDoorRac
namespace Go.Proofs.YtamiclgnehfhpaaDoor
open Go.Vm
set_option linter.unusedSimpArgs false
set_option linter.unusedVariables false
set_option maxHeartbeats 4000000
set_option maxRecDepth 20000
theorem vbRtp : type_of% (And.intro @slIndexByte_v (And.intro @indexByte_v (And.intro @indexRune_v (And.intro @containsRune_v (And.intro @slHasPrefix_v (And.intro @hasPrefix_v (And.intro @classOf_v (And.intro @isWordByte_v (And.intro @letter_v (And.intro @digit_v (And.intro @wordAt_v (And.intro @rword_v (And.intro @skip_v (And.intro @rskip_v (And.intro @number_v (And.intro @rnumber_v (And.intro @literal_v (And.intro @rtext_v (And.intro @lexemeAt_v (And.intro @rlexeme_v (And.intro @isName_v (And.intro @risName_v (And.intro @possible_v (And.intro @days_v (And.intro @due_v (And.intro @rkind_v (And.intro @rdays_v (And.intro @rdaysS_v (And.intro @rdue_v (And.intro @soft_usd (And.intro @soft_ust (And.intro @cnvN_pu (And.intro @cnvN_up (@eqS_pp)))))))))))))))))))))))))))))))))) := And.intro @slIndexByte_v (And.intro @indexByte_v (And.intro @indexRune_v (And.intro @containsRune_v (And.intro @slHasPrefix_v (And.intro @hasPrefix_v (And.intro @classOf_v (And.intro @isWordByte_v (And.intro @letter_v (And.intro @digit_v (And.intro @wordAt_v (And.intro @rword_v (And.intro @skip_v (And.intro @rskip_v (And.intro @number_v (And.intro @rnumber_v (And.intro @literal_v (And.intro @rtext_v (And.intro @lexemeAt_v (And.intro @rlexeme_v (And.intro @isName_v (And.intro @risName_v (And.intro @possible_v (And.intro @days_v (And.intro @due_v (And.intro @rkind_v (And.intro @rdays_v (And.intro @rdaysS_v (And.intro @rdue_v (And.intro @soft_usd (And.intro @soft_ust (And.intro @cnvN_pu (And.intro @cnvN_up (@eqS_pp)))))))))))))))))))))))))))))))))
theorem nil_eq (t : Txt) : (bs t = ⟨#[]⟩) = (t = []) := by
  apply propext
  constructor
  · intro h; exact bs_inj (b := []) h
  · rintro rfl; rfl
theorem rtLaw_h (A : AH) (hT : TabA A) (L : List Rs) (p : Option Addr) (cap : Nat) (hL : RsR A p L) (hl : L.length ≤ cap ∧ cap ≤ 9223372036854775807) : CallA Tryd.prog 7 #[.slice p L.length cap] A (fun u_ A_ => u_ = .bool true ∧ SubA A A_) := by
  refine callA_of_denA ⟨Tryd.prog, 7, Tryd.f7, 52, [0, 2, 3, 4, 5, 6], [9, 10, 25], [], _⟩ (args := [_]) Tryd.func7 rfl (by kernel_rfl) Tryd.ntmps7 (by simp) (by kernel_rfl) ?_
  intro ν fr; have nuE := fr.nu
  simp (maxDischargeDepth := 16) only [argE_nil, argE_cons, ↓vmD, vmV, vmStd, Nat.reduceMul, ↓reduceIte, Nat.reduceAdd, Nat.reduceSub, Nat.reduceEqDiff, Nat.reduceLT, Nat.reduceLeDiff, reduceCtorEq, Int.reduceToNat, Int.reduceLT, Int.reduceLE, Int.reduceEq, Int.reduceNeg, Int.reduceBEq, Int.reduceBNe, String.reduceEq, forall_const, ↓vmDA, vmVA, ↓vmQA, vmR, vmRA, ↓vmSA, vmSV, tyS, nuE, SubA.skip, SubA.refl, fr.2, vbRtp, ↓sA_usd, ↓sA_ust]
  clear nuE fr
  refine CallA.newX (small_n A L p cap hL) (SubA.refl A) ?_
  rintro v B ⟨b, rfl, hb⟩ hd
  refine ⟨A, hd.right, ?_⟩
  cases b with
  | false =>
    intro ν fr; have nuE := fr.nu
    simp (maxDischargeDepth := 16) only [argE_nil, argE_cons, ↓vmD, vmV, vmStd, Nat.reduceMul, ↓reduceIte, Nat.reduceAdd, Nat.reduceSub, Nat.reduceEqDiff, Nat.reduceLT, Nat.reduceLeDiff, reduceCtorEq, Int.reduceToNat, Int.reduceLT, Int.reduceLE, Int.reduceEq, Int.reduceNeg, Int.reduceBEq, Int.reduceBNe, String.reduceEq, forall_const, ↓vmDA, vmVA, ↓vmQA, vmR, vmRA, ↓vmSA, vmSV, tyS, nuE, SubA.skip, SubA.refl, fr.2, vbRtp, ↓sA_usd, ↓sA_ust]
    clear nuE fr
    refine CallA.newX (awk_n A hT) (SubA.refl A) ?_
    rintro v B rfl hd
    refine ⟨A, hd.right, ?_⟩
    intro ν fr; have nuE := fr.nu
    simp (maxDischargeDepth := 16) only [argE_nil, argE_cons, ↓vmD, vmV, vmStd, Nat.reduceMul, ↓reduceIte, Nat.reduceAdd, Nat.reduceSub, Nat.reduceEqDiff, Nat.reduceLT, Nat.reduceLeDiff, reduceCtorEq, Int.reduceToNat, Int.reduceLT, Int.reduceLE, Int.reduceEq, Int.reduceNeg, Int.reduceBEq, Int.reduceBNe, String.reduceEq, forall_const, ↓vmDA, vmVA, ↓vmQA, vmR, vmRA, ↓vmSA, vmSV, tyS, nuE, SubA.skip, SubA.refl, fr.2, vbRtp, ↓sA_usd, ↓sA_ust]
  | true =>
  have h40 := (hb rfl).1
  have e1 := fmtP_v A hT L p cap hL hl
  have e2 := chkR_v A L p cap hL hl
  intro ν fr; have nuE := fr.nu
  by_cases hc : chkE (L.map Rs.d) = 0
  · have hf : fmtE (L.map Rs.d) = fmtF (L.map Rs.d) := by unfold fmtE; rw [if_pos hc]
    rw [hf] at e1
    rw [hc] at e2
    by_cases hz : L = []
    · subst hz
      simp only [List.map_nil, List.length_nil, fmtF, List.flatMap_nil] at e1 e2 ⊢
      simp (maxDischargeDepth := 16) only [argE_nil, argE_cons, ↓vmD, vmV, vmStd, Nat.reduceMul, ↓reduceIte, Nat.reduceAdd, Nat.reduceSub, Nat.reduceEqDiff, Nat.reduceLT, Nat.reduceLeDiff, reduceCtorEq, Int.reduceToNat, Int.reduceLT, Int.reduceLE, Int.reduceEq, Int.reduceNeg, Int.reduceBEq, Int.reduceBNe, String.reduceEq, forall_const, ↓vmDA, vmVA, ↓vmQA, vmR, vmRA, ↓vmSA, vmSV, tyS, nuE, SubA.skip, SubA.refl, fr.2, vbRtp, ↓sA_usd, ↓sA_ust, e1, e2, bs_list]
      clear nuE fr
      refine CallA.newX (awk_n A hT) (SubA.refl A) ?_
      rintro v B rfl hd
      refine ⟨A, hd.right, ?_⟩
      intro ν fr; have nuE := fr.nu
      simp (maxDischargeDepth := 16) only [argE_nil, argE_cons, ↓vmD, vmV, vmStd, Nat.reduceMul, ↓reduceIte, Nat.reduceAdd, Nat.reduceSub, Nat.reduceEqDiff, Nat.reduceLT, Nat.reduceLeDiff, reduceCtorEq, Int.reduceToNat, Int.reduceLT, Int.reduceLE, Int.reduceEq, Int.reduceNeg, Int.reduceBEq, Int.reduceBNe, String.reduceEq, forall_const, ↓vmDA, vmVA, ↓vmQA, vmR, vmRA, ↓vmSA, vmSV, tyS, nuE, SubA.skip, SubA.refl, fr.2, vbRtp, ↓sA_usd, ↓sA_ust]
    have hne : (fmtF (L.map Rs.d) = []) = False := eq_false fun e => hz (by simpa using fmt_nil.1 e)
    have hlen : ((L.length : Int) = 0) = False := eq_false fun e => hz (List.length_eq_zero_iff.1 (by omega))
    by_cases h4 : (4000 : Int) < ((fmtF (L.map Rs.d)).length : Int)
    · simp (maxDischargeDepth := 16) only [argE_nil, argE_cons, ↓vmD, vmV, vmStd, Nat.reduceMul, ↓reduceIte, Nat.reduceAdd, Nat.reduceSub, Nat.reduceEqDiff, Nat.reduceLT, Nat.reduceLeDiff, reduceCtorEq, Int.reduceToNat, Int.reduceLT, Int.reduceLE, Int.reduceEq, Int.reduceNeg, Int.reduceBEq, Int.reduceBNe, String.reduceEq, forall_const, ↓vmDA, vmVA, ↓vmQA, vmR, vmRA, ↓vmSA, vmSV, tyS, nuE, SubA.skip, SubA.refl, fr.2, vbRtp, ↓sA_usd, ↓sA_ust, e1, e2, bs_list, hne, hlen, bs_size, eq_true h4]
      clear nuE fr
      refine CallA.newX (awk_n A hT) (SubA.refl A) ?_
      rintro v B rfl hd
      refine ⟨A, hd.right, ?_⟩
      intro ν fr; have nuE := fr.nu
      simp (maxDischargeDepth := 16) only [argE_nil, argE_cons, ↓vmD, vmV, vmStd, Nat.reduceMul, ↓reduceIte, Nat.reduceAdd, Nat.reduceSub, Nat.reduceEqDiff, Nat.reduceLT, Nat.reduceLeDiff, reduceCtorEq, Int.reduceToNat, Int.reduceLT, Int.reduceLE, Int.reduceEq, Int.reduceNeg, Int.reduceBEq, Int.reduceBNe, String.reduceEq, forall_const, ↓vmDA, vmVA, ↓vmQA, vmR, vmRA, ↓vmSA, vmSV, tyS, nuE, SubA.skip, SubA.refl, fr.2, vbRtp, ↓sA_usd, ↓sA_ust]
    have hpf := parse_fmt hc (by omega)
    simp (maxDischargeDepth := 16) only [argE_nil, argE_cons, ↓vmD, vmV, vmStd, Nat.reduceMul, ↓reduceIte, Nat.reduceAdd, Nat.reduceSub, Nat.reduceEqDiff, Nat.reduceLT, Nat.reduceLeDiff, reduceCtorEq, Int.reduceToNat, Int.reduceLT, Int.reduceLE, Int.reduceEq, Int.reduceNeg, Int.reduceBEq, Int.reduceBNe, String.reduceEq, forall_const, ↓vmDA, vmVA, ↓vmQA, vmR, vmRA, ↓vmSA, vmSV, tyS, nuE, SubA.skip, SubA.refl, fr.2, vbRtp, ↓sA_usd, ↓sA_ust, e1, e2, bs_list, hne, hlen, bs_size, eq_false h4]
    clear nuE fr
    refine CallA.newX (parse_n A (bs (fmtF (L.map Rs.d))) (by rw [bs_size]; omega)) (SubA.refl A) ?_
    rintro v1 B1 ⟨p1, c1, F1, rfl, hR1, hd1, hc1, hb1⟩ hdB
    rw [hpf] at hd1 ⊢
    refine ⟨B1 ++ A, SubA.refl _, ?_⟩
    have e7 := eqTab_v (B1 ++ A) L F1 p cap p1 c1 (hL.mono hdB.right) (hR1.mono (SubA.left _ _)) hd1.symm (by omega)
    intro ν fr; have nuE := fr.nu
    simp (maxDischargeDepth := 16) only [argE_nil, argE_cons, ↓vmD, vmV, vmStd, Nat.reduceMul, ↓reduceIte, Nat.reduceAdd, Nat.reduceSub, Nat.reduceEqDiff, Nat.reduceLT, Nat.reduceLeDiff, reduceCtorEq, Int.reduceToNat, Int.reduceLT, Int.reduceLE, Int.reduceEq, Int.reduceNeg, Int.reduceBEq, Int.reduceBNe, String.reduceEq, forall_const, ↓vmDA, vmVA, ↓vmQA, vmR, vmRA, ↓vmSA, vmSV, tyS, nuE, SubA.skip, SubA.refl, fr.2, vbRtp, ↓sA_usd, ↓sA_ust, e7]
    clear nuE fr
    refine CallA.newX (awk_n (B1 ++ A) (hT.mono hdB.right)) (SubA.refl _) ?_
    rintro v B rfl hd
    refine ⟨A, SubA.trans hdB.right hd.right, ?_⟩
    intro ν fr; have nuE := fr.nu
    simp (maxDischargeDepth := 16) only [argE_nil, argE_cons, ↓vmD, vmV, vmStd, Nat.reduceMul, ↓reduceIte, Nat.reduceAdd, Nat.reduceSub, Nat.reduceEqDiff, Nat.reduceLT, Nat.reduceLeDiff, reduceCtorEq, Int.reduceToNat, Int.reduceLT, Int.reduceLE, Int.reduceEq, Int.reduceNeg, Int.reduceBEq, Int.reduceBNe, String.reduceEq, forall_const, ↓vmDA, vmVA, ↓vmQA, vmR, vmRA, ↓vmSA, vmSV, tyS, nuE, SubA.skip, SubA.refl, fr.2, vbRtp, ↓sA_usd, ↓sA_ust]
  · have hf : fmtE (L.map Rs.d) = [] := by unfold fmtE; rw [if_neg hc]
    rw [hf] at e1
    have hc' : (chkE (L.map Rs.d) != 0) = true := by simpa using hc
    have hlen : ((L.length : Int) = 0) = False := eq_false fun e => hc (by rw [List.length_eq_zero_iff.1 (show L.length = 0 by omega)]; rfl)
    simp (maxDischargeDepth := 16) only [argE_nil, argE_cons, ↓vmD, vmV, vmStd, Nat.reduceMul, ↓reduceIte, Nat.reduceAdd, Nat.reduceSub, Nat.reduceEqDiff, Nat.reduceLT, Nat.reduceLeDiff, reduceCtorEq, Int.reduceToNat, Int.reduceLT, Int.reduceLE, Int.reduceEq, Int.reduceNeg, Int.reduceBEq, Int.reduceBNe, String.reduceEq, forall_const, ↓vmDA, vmVA, ↓vmQA, vmR, vmRA, ↓vmSA, vmSV, tyS, nuE, SubA.skip, SubA.refl, fr.2, vbRtp, ↓sA_usd, ↓sA_ust, e1, e2, bs_list, hc', hlen]
    clear nuE fr
    refine CallA.newX (awk_n A hT) (SubA.refl A) ?_
    rintro v B rfl hd
    refine ⟨A, hd.right, ?_⟩
    intro ν fr; have nuE := fr.nu
    simp (maxDischargeDepth := 16) only [argE_nil, argE_cons, ↓vmD, vmV, vmStd, Nat.reduceMul, ↓reduceIte, Nat.reduceAdd, Nat.reduceSub, Nat.reduceEqDiff, Nat.reduceLT, Nat.reduceLeDiff, reduceCtorEq, Int.reduceToNat, Int.reduceLT, Int.reduceLE, Int.reduceEq, Int.reduceNeg, Int.reduceBEq, Int.reduceBNe, String.reduceEq, forall_const, ↓vmDA, vmVA, ↓vmQA, vmR, vmRA, ↓vmSA, vmSV, tyS, nuE, SubA.skip, SubA.refl, fr.2, vbRtp, ↓sA_usd, ↓sA_ust]
theorem rtLaw_w (A : AH) (hT : TabA A) (L : List Rs) (p : Option Addr) (cap : Nat) (hL : RsR A p L) (hl : L.length ≤ cap ∧ cap ≤ 9223372036854775807) (B_ : AH) (hB_ : SubA A B_) : valA Tryd.prog 7 #[.slice p L.length cap] B_ = some (.bool true) := valA_eq (pureA_at (by kernel_rfl) (rtLaw_h A hT L p cap hL hl) hB_)
theorem rtLaw_v (A : AH) (hT : TabA A) (L : List Rs) (p : Option Addr) (cap : Nat) (hL : RsR A p L) (hl : L.length ≤ cap ∧ cap ≤ 9223372036854775807) : valA Tryd.prog 7 #[.slice p L.length cap] A = some (.bool true) := valA_eq (pureA_at (by kernel_rfl) (rtLaw_h A hT L p cap hL hl) (SubA.refl _))
theorem trip_walk (w : World) (ht : Lib.TabIs Tryd.prog w "internal/strconv.uint64pow10" .u64 Lib.pow10Tab) (a0 : Option Addr) (len0 cap0 : Nat) (w0 : Vm.Fits w.heap (.sl 7 (.st 7 [(0, 1, .str), (1, 1, .int .i64), (2, 1, .int .i64), (3, 1, .int .i64), (4, 1, .int .i64), (5, 1, .sl 1 .str), (6, 1, .sl 1 .str)])) [.slice a0 len0 cap0]) :
    CallsH Tryd.prog 7 #[.slice a0 len0 cap0] w.heap fun e h' => e = .returned (.bool true) ∧ Grew w.heap h' := by
  obtain ⟨B, hB, hT⟩ := TabA.of ht
  obtain ⟨L, A, rfl, h1, h2, hA, hL⟩ := tab_in w0
  exact callsH_of_pure (rtLaw_v (A ++ B) (hT.mono (sat_sub hA hB)) L a0 cap0 (hL.mono (SubA.left _ _)) ⟨h1, h2⟩) (by kernel_rfl) (hA.both hB)
end Go.Proofs.YtamiclgnehfhpaaDoor
