/-
Reasons: the law of reading, and its walk.
Conditions: none.
-/
import Derived.Test.YtamiclgnehfhpaaDoorRtp
namespace Go.Proofs.YtamiclgnehfhpaaDoor
open Go.Vm
set_option linter.unusedSimpArgs false
set_option linter.unusedVariables false
set_option maxHeartbeats 4000000
set_option maxRecDepth 20000
theorem vbRdl : type_of% (And.intro @slIndexByte_v (And.intro @indexByte_v (And.intro @indexRune_v (And.intro @containsRune_v (And.intro @slHasPrefix_v (And.intro @hasPrefix_v (And.intro @classOf_v (And.intro @isWordByte_v (And.intro @letter_v (And.intro @digit_v (And.intro @wordAt_v (And.intro @rword_v (And.intro @skip_v (And.intro @rskip_v (And.intro @number_v (And.intro @rnumber_v (And.intro @literal_v (And.intro @rtext_v (And.intro @lexemeAt_v (And.intro @rlexeme_v (And.intro @isName_v (And.intro @risName_v (And.intro @possible_v (And.intro @days_v (And.intro @due_v (And.intro @rkind_v (And.intro @rdays_v (And.intro @rdaysS_v (And.intro @rdue_v (And.intro @soft_usd (And.intro @soft_ust (And.intro @cnvN_pu (And.intro @cnvN_up (@eqS_pp)))))))))))))))))))))))))))))))))) := And.intro @slIndexByte_v (And.intro @indexByte_v (And.intro @indexRune_v (And.intro @containsRune_v (And.intro @slHasPrefix_v (And.intro @hasPrefix_v (And.intro @classOf_v (And.intro @isWordByte_v (And.intro @letter_v (And.intro @digit_v (And.intro @wordAt_v (And.intro @rword_v (And.intro @skip_v (And.intro @rskip_v (And.intro @number_v (And.intro @rnumber_v (And.intro @literal_v (And.intro @rtext_v (And.intro @lexemeAt_v (And.intro @rlexeme_v (And.intro @isName_v (And.intro @risName_v (And.intro @possible_v (And.intro @days_v (And.intro @due_v (And.intro @rkind_v (And.intro @rdays_v (And.intro @rdaysS_v (And.intro @rdue_v (And.intro @soft_usd (And.intro @soft_ust (And.intro @cnvN_pu (And.intro @cnvN_up (@eqS_pp)))))))))))))))))))))))))))))))))
theorem readsLaw_h (A : AH) (hT : TabA A) (s : ByteArray) : CallA Tryd.prog 8 #[.string s] A (fun u_ A_ => u_ = .bool true ∧ SubA A A_) := by
  refine callA_of_denA ⟨Tryd.prog, 8, Tryd.f8, 100, [0, 2, 3, 4, 5, 6, 7, 8, 9, 10, 11], [10, 25, 11], [(12, .q false)], _⟩ (args := [_]) Tryd.func8 rfl (by kernel_rfl) Tryd.ntmps8 (by simp) (by kernel_rfl) ?_
  intro ν fr; have nuE := fr.nu
  by_cases h2 : (2000 : Int) < (s.size : Int)
  · simp (maxDischargeDepth := 16) only [argE_nil, argE_cons, ↓vmD, vmV, vmStd, Nat.reduceMul, ↓reduceIte, Nat.reduceAdd, Nat.reduceSub, Nat.reduceEqDiff, Nat.reduceLT, Nat.reduceLeDiff, reduceCtorEq, Int.reduceToNat, Int.reduceLT, Int.reduceLE, Int.reduceEq, Int.reduceNeg, Int.reduceBEq, Int.reduceBNe, String.reduceEq, forall_const, ↓vmDA, vmVA, ↓vmQA, vmR, vmRA, ↓vmSA, vmSV, tyS, nuE, SubA.skip, SubA.refl, fr.2, vbRdl, ↓sA_usd, ↓sA_ust, eq_true h2]
    clear nuE fr
    refine CallA.newX (awk_n A hT) (SubA.refl A) ?_
    rintro v B rfl hd
    refine ⟨A, hd.right, ?_⟩
    intro ν fr; have nuE := fr.nu
    simp (maxDischargeDepth := 16) only [argE_nil, argE_cons, ↓vmD, vmV, vmStd, Nat.reduceMul, ↓reduceIte, Nat.reduceAdd, Nat.reduceSub, Nat.reduceEqDiff, Nat.reduceLT, Nat.reduceLeDiff, reduceCtorEq, Int.reduceToNat, Int.reduceLT, Int.reduceLE, Int.reduceEq, Int.reduceNeg, Int.reduceBEq, Int.reduceBNe, String.reduceEq, forall_const, ↓vmDA, vmVA, ↓vmQA, vmR, vmRA, ↓vmSA, vmSV, tyS, nuE, SubA.skip, SubA.refl, fr.2, vbRdl, ↓sA_usd, ↓sA_ust]
  simp (maxDischargeDepth := 16) only [argE_nil, argE_cons, ↓vmD, vmV, vmStd, Nat.reduceMul, ↓reduceIte, Nat.reduceAdd, Nat.reduceSub, Nat.reduceEqDiff, Nat.reduceLT, Nat.reduceLeDiff, reduceCtorEq, Int.reduceToNat, Int.reduceLT, Int.reduceLE, Int.reduceEq, Int.reduceNeg, Int.reduceBEq, Int.reduceBNe, String.reduceEq, forall_const, ↓vmDA, vmVA, ↓vmQA, vmR, vmRA, ↓vmSA, vmSV, tyS, nuE, SubA.skip, SubA.refl, fr.2, vbRdl, ↓sA_usd, ↓sA_ust, eq_false h2]
  clear nuE fr
  refine CallA.newX (parse_n A s (by omega)) (SubA.refl A) ?_
  rintro v1 B1 ⟨p1, c1, F1, rfl, hR1, hd1, hc1, hb1⟩ hdB
  obtain ⟨t1, t2, t3⟩ := parseF_at s
  refine ⟨B1 ++ A, SubA.refl _, ?_⟩
  by_cases h0 : (parseF s).1 = 0
  · have hck := parse_ok h0
    rw [← hd1] at hck
    have hR := hR1.mono (SubA.left B1 A)
    have e2 := chkR_v (B1 ++ A) F1 p1 c1 hR hc1
    have e3 := fmtP_v (B1 ++ A) (hT.mono hdB.right) F1 p1 c1 hR hc1
    have hf : fmtE (F1.map Rs.d) = fmtF (F1.map Rs.d) := by unfold fmtE; rw [if_pos hck]
    rw [hck] at e2
    rw [hf] at e3
    rw [h0]
    intro ν fr; have nuE := fr.nu
    simp (maxDischargeDepth := 16) only [argE_nil, argE_cons, ↓vmD, vmV, vmStd, Nat.reduceMul, ↓reduceIte, Nat.reduceAdd, Nat.reduceSub, Nat.reduceEqDiff, Nat.reduceLT, Nat.reduceLeDiff, reduceCtorEq, Int.reduceToNat, Int.reduceLT, Int.reduceLE, Int.reduceEq, Int.reduceNeg, Int.reduceBEq, Int.reduceBNe, String.reduceEq, forall_const, ↓vmDA, vmVA, ↓vmQA, vmR, vmRA, ↓vmSA, vmSV, tyS, nuE, SubA.skip, SubA.refl, fr.2, vbRdl, ↓sA_usd, ↓sA_ust, e2]
    have hbig := chkE_big hck
    have h32 : F1.length ≤ 32 := by have := (chkE_out hck).1; simpa using this
    have hfd := chkE_find hck
    obtain ⟨e, l, he, hd, hle⟩ : ∃ (e : Nat) (l : List Rs), e = 0 ∧ l = F1.drop e ∧ e ≤ F1.length := ⟨0, F1, rfl, rfl, by omega⟩
    rw [show (6, some (Value.int .i64 0)) = (6, some (Value.int .i64 (e : Int))) by rw [he]; rfl]
    clear he nuE fr
    induction l generalizing e with
    | nil =>
      obtain ⟨hn1, hn2⟩ := drop_nil hd hle
      have lt : ((e : Int) < (F1.length : Int)) = False := eq_false (by omega)
      refine LoopA.intro (by kernel_rfl) ?_
      intro ν fr; have nuE := fr.nu
      simp (maxDischargeDepth := 16) only [argE_nil, argE_cons, ↓vmD, vmV, vmStd, Nat.reduceMul, ↓reduceIte, Nat.reduceAdd, Nat.reduceSub, Nat.reduceEqDiff, Nat.reduceLT, Nat.reduceLeDiff, reduceCtorEq, Int.reduceToNat, Int.reduceLT, Int.reduceLE, Int.reduceEq, Int.reduceNeg, Int.reduceBEq, Int.reduceBNe, String.reduceEq, forall_const, ↓vmDA, vmVA, ↓vmQA, vmR, vmRA, ↓vmSA, vmSV, tyS, nuE, SubA.skip, SubA.refl, fr.2, vbRdl, ↓sA_usd, ↓sA_ust, lt, e3]
      have hfl := fmtF_len (F1.map Rs.d) (chkE_out hck).2
      have hml : (F1.map Rs.d).length = F1.length := by simp
      clear nuE fr
      refine CallA.newX (parse_n (B1 ++ A) (bs (fmtF (F1.map Rs.d))) (by rw [bs_size]; omega)) (SubA.refl _) ?_
      rintro v2 B2 ⟨p2, c2, F2, rfl, hR2, hd2, hc2, hb2⟩ hdB2
      refine ⟨B2 ++ (B1 ++ A), SubA.refl _, ?_⟩
      by_cases h4 : (4000 : Int) < ((fmtF (F1.map Rs.d)).length : Int)
      · intro ν fr; have nuE := fr.nu
        simp (maxDischargeDepth := 16) only [argE_nil, argE_cons, ↓vmD, vmV, vmStd, Nat.reduceMul, ↓reduceIte, Nat.reduceAdd, Nat.reduceSub, Nat.reduceEqDiff, Nat.reduceLT, Nat.reduceLeDiff, reduceCtorEq, Int.reduceToNat, Int.reduceLT, Int.reduceLE, Int.reduceEq, Int.reduceNeg, Int.reduceBEq, Int.reduceBNe, String.reduceEq, forall_const, ↓vmDA, vmVA, ↓vmQA, vmR, vmRA, ↓vmSA, vmSV, tyS, nuE, SubA.skip, SubA.refl, fr.2, vbRdl, ↓sA_usd, ↓sA_ust, bs_size, eq_true h4]
        clear nuE fr
        refine CallA.newX (awk_n (B2 ++ (B1 ++ A)) (hT.mono (SubA.trans hdB.right hdB2.right))) (SubA.refl _) ?_
        rintro v B rfl hd
        refine ⟨A, SubA.trans (SubA.trans hdB.right hdB2.right) hd.right, ?_⟩
        intro ν fr; have nuE := fr.nu
        simp (maxDischargeDepth := 16) only [argE_nil, argE_cons, ↓vmD, vmV, vmStd, Nat.reduceMul, ↓reduceIte, Nat.reduceAdd, Nat.reduceSub, Nat.reduceEqDiff, Nat.reduceLT, Nat.reduceLeDiff, reduceCtorEq, Int.reduceToNat, Int.reduceLT, Int.reduceLE, Int.reduceEq, Int.reduceNeg, Int.reduceBEq, Int.reduceBNe, String.reduceEq, forall_const, ↓vmDA, vmVA, ↓vmQA, vmR, vmRA, ↓vmSA, vmSV, tyS, nuE, SubA.skip, SubA.refl, fr.2, vbRdl, ↓sA_usd, ↓sA_ust]
      · have hpf := parse_fmt hck (by omega)
        rw [hpf] at hd2 ⊢
        have hS := hR.mono hdB2.right
        have hS2 := hR2.mono (SubA.left B2 (B1 ++ A))
        have e7 := eqTab_v (B2 ++ (B1 ++ A)) F1 F2 p1 c1 p2 c2 hS hS2 hd2.symm (by omega)
        have e8 := fmtP_v (B2 ++ (B1 ++ A)) (hT.mono (SubA.trans hdB.right hdB2.right)) F2 p2 c2 hS2 hc2
        rw [hd2, hf] at e8
        intro ν fr; have nuE := fr.nu
        simp (maxDischargeDepth := 16) only [argE_nil, argE_cons, ↓vmD, vmV, vmStd, Nat.reduceMul, ↓reduceIte, Nat.reduceAdd, Nat.reduceSub, Nat.reduceEqDiff, Nat.reduceLT, Nat.reduceLeDiff, reduceCtorEq, Int.reduceToNat, Int.reduceLT, Int.reduceLE, Int.reduceEq, Int.reduceNeg, Int.reduceBEq, Int.reduceBNe, String.reduceEq, forall_const, ↓vmDA, vmVA, ↓vmQA, vmR, vmRA, ↓vmSA, vmSV, tyS, nuE, SubA.skip, SubA.refl, fr.2, vbRdl, ↓sA_usd, ↓sA_ust, bs_size, eq_false h4, e7, e8]
        clear nuE fr
        refine CallA.newX (awk_n (B2 ++ (B1 ++ A)) (hT.mono (SubA.trans hdB.right hdB2.right))) (SubA.refl _) ?_
        rintro v B rfl hd
        refine ⟨A, SubA.trans (SubA.trans hdB.right hdB2.right) hd.right, ?_⟩
        intro ν fr; have nuE := fr.nu
        simp (maxDischargeDepth := 16) only [argE_nil, argE_cons, ↓vmD, vmV, vmStd, Nat.reduceMul, ↓reduceIte, Nat.reduceAdd, Nat.reduceSub, Nat.reduceEqDiff, Nat.reduceLT, Nat.reduceLeDiff, reduceCtorEq, Int.reduceToNat, Int.reduceLT, Int.reduceLE, Int.reduceEq, Int.reduceNeg, Int.reduceBEq, Int.reduceBNe, String.reduceEq, forall_const, ↓vmDA, vmVA, ↓vmQA, vmR, vmRA, ↓vmSA, vmSV, tyS, nuE, SubA.skip, SubA.refl, fr.2, vbRdl, ↓sA_usd, ↓sA_ust]
    | cons x l ih =>
      obtain ⟨ha, hlt, hd', htk⟩ := drop_some hd
      have lt : ((e : Int) < (F1.length : Int)) = True := eq_true (by omega)
      have we : IntKind.i64.wrap ((e : Int) + 1) = ((e + 1 : Nat) : Int) := by rw [w_i64 (by omega) (by omega)]; omega
      obtain ⟨bk, off, cs, ty, fr0, hp0, hbk, hcr, hcc⟩ := hR.1.at ha
      have hxr := hR.2 x (List.mem_of_getElem? ha)
      have hfx := hfd x.d (List.mem_map.2 ⟨x, List.mem_of_getElem? ha, rfl⟩)
      have g0 : cs[off + e * 7]? = some (.string (bs x.d.code)) := hcc 0 _ rfl
      have g1 : cs[off + e * 7 + 1]? = some (.int .i64 x.d.d1) := hcc 1 _ rfl
      have g2 : cs[off + e * 7 + 2]? = some (.int .i64 x.d.d2) := hcc 2 _ rfl
      have g3 : cs[off + e * 7 + 3]? = some (.int .i64 x.d.d3) := hcc 3 _ rfl
      have g4 : cs[off + e * 7 + 4]? = some (.int .i64 x.d.d4) := hcc 4 _ rfl
      have g5 : cs[off + e * 7 + 5]? = some (.slice x.p1 x.d.cl.length x.c1) := hcc 5 _ rfl
      have g6 : cs[off + e * 7 + 6]? = some (.slice x.p2 x.d.df.length x.c2) := hcc 6 _ rfl
      have li : ((e : Int) < 0) = False := eq_false (by omega)
      have hfn := find_n (B1 ++ A) F1 p1 c1 x.d.code hR hbig (by omega)
      rw [hfx] at hfn
      subst hp0
      refine LoopA.intro (by kernel_rfl) ?_
      intro ν fr; have nuE := fr.nu
      simp (maxDischargeDepth := 16) only [argE_nil, argE_cons, ↓vmD, vmV, vmStd, Nat.reduceMul, ↓reduceIte, Nat.reduceAdd, Nat.reduceSub, Nat.reduceEqDiff, Nat.reduceLT, Nat.reduceLeDiff, reduceCtorEq, Int.reduceToNat, Int.reduceLT, Int.reduceLE, Int.reduceEq, Int.reduceNeg, Int.reduceBEq, Int.reduceBNe, String.reduceEq, forall_const, ↓vmDA, vmVA, ↓vmQA, vmR, vmRA, ↓vmSA, vmSV, tyS, nuE, SubA.skip, SubA.refl, fr.2, vbRdl, ↓sA_usd, ↓sA_ust, lt, li, hbk, g0]
      clear nuE fr
      refine CallA.newX hfn (SubA.refl _) ?_
      rintro v2 B2 ⟨r, rfl, hrd, hrin⟩ hdB2
      refine ⟨B2 ++ (B1 ++ A), SubA.refl _, ?_⟩
      obtain ⟨rd, q1, k1, q2, k2⟩ := r
      simp only [Option.getD_some] at hrd
      subst hrd
      simp only [rsC, Option.isSome_some]
      intro ν fr; have nuE := fr.nu
      have f0 : Vm.look (B2 ++ (B1 ++ A)) (ν 0) = none := fr.2 0
      have s0 : ∀ o, SubA (B2 ++ (B1 ++ A)) ((ν 0, o) :: (B2 ++ (B1 ++ A))) := fun o => SubA.fresh f0 (SubA.refl _)
      have hbk2 : Vm.look (B2 ++ (B1 ++ A)) bk = some (.cells cs ty fr0) := hdB2.right _ _ hbk
      have nb : (ν 0 = bk) = False := eq_false fun h => by rw [h, hbk2] at f0; cases f0
      have e5 := fun o => eqRs_v ((ν 0, o) :: (B2 ++ (B1 ++ A))) x.d q1 q2 x.p1 x.p2 k1 k2 x.c1 x.c2 (hrin.mono (s0 o)) (hxr.mono (SubA.trans hdB2.right (s0 o)))
      simp only [rsC] at hcr
      simp (maxDischargeDepth := 16) only [argE_nil, argE_cons, ↓vmD, vmV, vmStd, Nat.reduceMul, ↓reduceIte, Nat.reduceAdd, Nat.reduceSub, Nat.reduceEqDiff, Nat.reduceLT, Nat.reduceLeDiff, reduceCtorEq, Int.reduceToNat, Int.reduceLT, Int.reduceLE, Int.reduceEq, Int.reduceNeg, Int.reduceBEq, Int.reduceBNe, String.reduceEq, forall_const, ↓vmDA, vmVA, ↓vmQA, vmR, vmRA, ↓vmSA, vmSV, tyS, nuE, SubA.skip, SubA.refl, fr.2, vbRdl, ↓sA_usd, ↓sA_ust, lt, li, nb, hbk2, hcr, e5, we]
      exact LoopA.weak (ih (e + 1) hd' (by omega)) (by simp only [subE, get_cons, Nat.reduceEqDiff, ↓reduceIte, reduceCtorEq, Nat.reduceAdd, and_self, and_true]) (SubA.trans hdB2.right (s0 _))
  · have hz : F1.length = 0 := by have := t3 h0; rw [← hd1] at this; simpa using this
    have h0' : ((parseF s).1 != 0) = true := by simpa using h0
    have h0'' : ((parseF s).1 = 0) = False := eq_false h0
    intro ν fr; have nuE := fr.nu
    simp (maxDischargeDepth := 16) only [argE_nil, argE_cons, ↓vmD, vmV, vmStd, Nat.reduceMul, ↓reduceIte, Nat.reduceAdd, Nat.reduceSub, Nat.reduceEqDiff, Nat.reduceLT, Nat.reduceLeDiff, reduceCtorEq, Int.reduceToNat, Int.reduceLT, Int.reduceLE, Int.reduceEq, Int.reduceNeg, Int.reduceBEq, Int.reduceBNe, String.reduceEq, forall_const, ↓vmDA, vmVA, ↓vmQA, vmR, vmRA, ↓vmSA, vmSV, tyS, nuE, SubA.skip, SubA.refl, fr.2, vbRdl, ↓sA_usd, ↓sA_ust, h0', h0'', hz, eq_false (show ¬ (parseF s).2.1 < 0 by omega), eq_true (show (0 : Int) ≤ (parseF s).2.1 by omega), eq_true t2, eq_false (show ¬ ((s.size : Int) < (parseF s).2.1) by omega)]
    clear nuE fr
    refine CallA.newX (awk_n (B1 ++ A) (hT.mono hdB.right)) (SubA.refl _) ?_
    rintro v B rfl hd
    refine ⟨A, SubA.trans hdB.right hd.right, ?_⟩
    intro ν fr; have nuE := fr.nu
    simp (maxDischargeDepth := 16) only [argE_nil, argE_cons, ↓vmD, vmV, vmStd, Nat.reduceMul, ↓reduceIte, Nat.reduceAdd, Nat.reduceSub, Nat.reduceEqDiff, Nat.reduceLT, Nat.reduceLeDiff, reduceCtorEq, Int.reduceToNat, Int.reduceLT, Int.reduceLE, Int.reduceEq, Int.reduceNeg, Int.reduceBEq, Int.reduceBNe, String.reduceEq, forall_const, ↓vmDA, vmVA, ↓vmQA, vmR, vmRA, ↓vmSA, vmSV, tyS, nuE, SubA.skip, SubA.refl, fr.2, vbRdl, ↓sA_usd, ↓sA_ust]
theorem readsLaw_w (A : AH) (hT : TabA A) (s : ByteArray) (B_ : AH) (hB_ : SubA A B_) : valA Tryd.prog 8 #[.string s] B_ = some (.bool true) := valA_eq (pureA_at (by kernel_rfl) (readsLaw_h A hT s) hB_)
theorem readsLaw_v (A : AH) (hT : TabA A) (s : ByteArray) : valA Tryd.prog 8 #[.string s] A = some (.bool true) := valA_eq (pureA_at (by kernel_rfl) (readsLaw_h A hT s) (SubA.refl _))
theorem reads_walk (w : World) (ht : Lib.TabIs Tryd.prog w "internal/strconv.uint64pow10" .u64 Lib.pow10Tab) (s : ByteArray) :
    CallsH Tryd.prog 8 #[.string s] w.heap fun e h' => e = .returned (.bool true) ∧ Grew w.heap h' := by
  obtain ⟨B, hB, hT⟩ := TabA.of ht
  exact callsH_of_pure (readsLaw_v B hT s) (by kernel_rfl) hB
end Go.Proofs.YtamiclgnehfhpaaDoor
