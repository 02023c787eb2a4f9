/-
Card numbers: the walk of the program's stripping.
Conditions: none.
-/
import Derived.Test.YtnpjgimkllebhaaDoorPnS
namespace Go.Proofs.YtnpjgimkllebhaaDoor
open Go.Vm
set_option linter.unusedSimpArgs false
set_option linter.unusedVariables false
set_option maxHeartbeats 1000000
set_option maxRecDepth 20000
theorem panStrip_h (l : List UInt8) (hl : l.length ≤ 10000) : CallA Tryd.prog 27 #[.string (bs l)] [] (fun u_ _ => u_ = strV l) := by
  refine callA_of_denA ⟨Tryd.prog, 27, Tryd.f27, 52, [0, 2, 3, 4, 5, 6, 7, 9, 10], [34, 35], [], _⟩ (args := [_]) Tryd.func27 rfl (by kernel_rfl) Tryd.ntmps27 (by simp) (by kernel_rfl) ?_
  intro ν fr; have nuE := fr.nu
  have ck := fun (x : List UInt8) (hx : x.length ≤ 10000) A => panCheck_v x (by omega) A
  have dg := fun i A => panDgAt_v l i (by omega) A
  simp (maxDischargeDepth := 16) only [argE_nil, argE_cons, ↓vmD, vmV, vmStd, Nat.reduceMul, ↓reduceIte, Nat.reduceAdd, Nat.reduceSub, Nat.reduceEqDiff, Nat.reduceLT, Nat.reduceLeDiff, reduceCtorEq, Int.reduceToNat, Int.reduceLT, Int.reduceLE, Int.reduceEq, Int.reduceNeg, Int.reduceBEq, Int.reduceBNe, String.reduceEq, forall_const, ↓vmDA, vmVA, ↓vmQA, vmR, vmRA, ↓vmSA, vmSV, tyS, nuE, areDigits_v, panSum_v, rdigits_v, rsum_v, panLuhn_v, rLuhn_v, panCheck_v, rCheck_v, panCd_v, rCd_v, ↓sA_usd, ↓sA_ust, soft_usd, soft_ust, cnvN_pu, cnvN_up, eqS_pp, isPrefix_v, rMake_v, panIndex_v, rIndex_v, panMask_v, rMask_v, panWithin_v, rWithin_v, panDgAt_v, rDgAt_v, rGroup_v, panGroup_v, rStrip_v, bs_size]
  obtain ⟨b, E, hb, hEq, hE0⟩ : ∃ b E, b = ν 0 ∧ E = [(b, .cells #[.pointer none, .slice none 0 0] 43)] ∧ BldA E b [] := ⟨_, _, rfl, rfl, BldA.new _⟩
  rw [← hb, ← hEq]
  clear hEq hb
  obtain ⟨e, k, dn, acc, d, he, ha, h3, hk, hd, hle, hE⟩ : ∃ (e : Nat) (k dn acc : List UInt8) (d : Bool), e = 0 ∧ l = dn ++ k ∧ dn.length = e ∧ strL false l = (strL d k).map (acc ++ ·) ∧ dgI l ((e : Int) - 1) = d ∧ acc.length ≤ e ∧ BldA E b acc := ⟨0, l, [], [], false, rfl, rfl, rfl, by simp, dgI_neg (by omega), by simp, hE0⟩
  clear hE0
  rw [show (10, some (Value.int .i64 0)) = (10, some (Value.int .i64 (e : Int))) by rw [he]; rfl]
  clear he nuE fr
  induction k generalizing e dn acc d E with
  | nil =>
    obtain ⟨lt, hd2, hle2, dc⟩ := at_nil ha h3
    have hm : strL false l = some acc := by rw [hk]; simp [strL]
    have ca := fun A => ck acc (by omega) A
    refine LoopA.intro (by kernel_rfl) ?_
    intro ν fr; have nuE := fr.nu
    simp (maxDischargeDepth := 16) only [argE_nil, argE_cons, ↓vmD, vmV, vmStd, Nat.reduceMul, ↓reduceIte, Nat.reduceAdd, Nat.reduceSub, Nat.reduceEqDiff, Nat.reduceLT, Nat.reduceLeDiff, reduceCtorEq, Int.reduceToNat, Int.reduceLT, Int.reduceLE, Int.reduceEq, Int.reduceNeg, Int.reduceBEq, Int.reduceBNe, String.reduceEq, forall_const, ↓vmDA, vmVA, ↓vmQA, vmR, vmRA, ↓vmSA, vmSV, tyS, nuE, areDigits_v, panSum_v, rdigits_v, rsum_v, panLuhn_v, rLuhn_v, panCheck_v, rCheck_v, panCd_v, rCd_v, ↓sA_usd, ↓sA_ust, soft_usd, soft_ust, cnvN_pu, cnvN_up, eqS_pp, isPrefix_v, rMake_v, panIndex_v, rIndex_v, panMask_v, rMask_v, panWithin_v, rWithin_v, panDgAt_v, rDgAt_v, rGroup_v, panGroup_v, rStrip_v, lt]
    refine CallA.use (bldStr_h E b acc hE (by omega)) (SubA.refl _) (fun v D h => h.2) [] (SubA.nil _) (dis_nil _) ?_
    rintro v D ⟨rfl, _⟩ _
    refine ⟨[], SubA.nil _, ?_⟩
    intro ν fr; have nuE := fr.nu
    by_cases h0 : chk acc = 0
    · have hv : strV l = .tuple #[.string (bs acc), .int .i64 0] := by unfold strV; rw [hm]; simp [h0]
      simp (maxDischargeDepth := 16) only [argE_nil, argE_cons, ↓vmD, vmV, vmStd, Nat.reduceMul, ↓reduceIte, Nat.reduceAdd, Nat.reduceSub, Nat.reduceEqDiff, Nat.reduceLT, Nat.reduceLeDiff, reduceCtorEq, Int.reduceToNat, Int.reduceLT, Int.reduceLE, Int.reduceEq, Int.reduceNeg, Int.reduceBEq, Int.reduceBNe, String.reduceEq, forall_const, ↓vmDA, vmVA, ↓vmQA, vmR, vmRA, ↓vmSA, vmSV, tyS, nuE, areDigits_v, panSum_v, rdigits_v, rsum_v, panLuhn_v, rLuhn_v, panCheck_v, rCheck_v, panCd_v, rCd_v, ↓sA_usd, ↓sA_ust, soft_usd, soft_ust, cnvN_pu, cnvN_up, eqS_pp, isPrefix_v, rMake_v, panIndex_v, rIndex_v, panMask_v, rMask_v, panWithin_v, rWithin_v, panDgAt_v, rDgAt_v, rGroup_v, panGroup_v, rStrip_v, ca, chk_bne, h0, hv]
    · have hv : strV l = .tuple #[.string (bs []), .int .i64 (chk acc)] := by unfold strV; rw [hm]; simp [h0]
      simp (maxDischargeDepth := 16) only [argE_nil, argE_cons, ↓vmD, vmV, vmStd, Nat.reduceMul, ↓reduceIte, Nat.reduceAdd, Nat.reduceSub, Nat.reduceEqDiff, Nat.reduceLT, Nat.reduceLeDiff, reduceCtorEq, Int.reduceToNat, Int.reduceLT, Int.reduceLE, Int.reduceEq, Int.reduceNeg, Int.reduceBEq, Int.reduceBNe, String.reduceEq, forall_const, ↓vmDA, vmVA, ↓vmQA, vmR, vmRA, ↓vmSA, vmSV, tyS, nuE, areDigits_v, panSum_v, rdigits_v, rsum_v, panLuhn_v, rLuhn_v, panCheck_v, rCheck_v, panCd_v, rCd_v, ↓sA_usd, ↓sA_ust, soft_usd, soft_ust, cnvN_pu, cnvN_up, eqS_pp, isPrefix_v, rMake_v, panIndex_v, rIndex_v, panMask_v, rMask_v, panWithin_v, rWithin_v, panDgAt_v, rDgAt_v, rGroup_v, panGroup_v, rStrip_v, ca, chk_bne, h0, hv, bs_nil]
  | cons c k ih =>
    obtain ⟨lt, we, hc, hle2, dc, ha', h3', hlen⟩ := at_cons ha h3 (by omega)
    have wm : IntKind.i64.wrap ((e : Int) - 1) = (e : Int) - 1 := w_i64 (by omega) (by omega)
    have dc0 := dgI_some hc
    have dn1 := dgI_next ha' h3'
    have dm : dgI l (((e + 1 : Nat) : Int) - 1) = digB c := by rw [show ((e + 1 : Nat) : Int) - 1 = (e : Int) by omega]; exact dc0
    have n32 : ((c.toNat : Int) != 32) = !decide (c = 32) := u8_bne c 32 (by omega)
    have d45 : decide ((45 : UInt8) = 32) = false := rfl
    have n45 : ((c.toNat : Int) != 45) = !decide (c = 45) := u8_bne c 45 (by omega)
    refine LoopA.intro (by kernel_rfl) ?_
    intro ν fr; have nuE := fr.nu
    cases hb : digB c with
    | true =>
      simp (maxDischargeDepth := 16) only [argE_nil, argE_cons, ↓vmD, vmV, vmStd, Nat.reduceMul, ↓reduceIte, Nat.reduceAdd, Nat.reduceSub, Nat.reduceEqDiff, Nat.reduceLT, Nat.reduceLeDiff, reduceCtorEq, Int.reduceToNat, Int.reduceLT, Int.reduceLE, Int.reduceEq, Int.reduceNeg, Int.reduceBEq, Int.reduceBNe, String.reduceEq, forall_const, ↓vmDA, vmVA, ↓vmQA, vmR, vmRA, ↓vmSA, vmSV, tyS, nuE, areDigits_v, panSum_v, rdigits_v, rsum_v, panLuhn_v, rLuhn_v, panCheck_v, rCheck_v, panCd_v, rCd_v, ↓sA_usd, ↓sA_ust, soft_usd, soft_ust, cnvN_pu, cnvN_up, eqS_pp, isPrefix_v, rMake_v, panIndex_v, rIndex_v, panMask_v, rMask_v, panWithin_v, rWithin_v, panDgAt_v, rDgAt_v, rGroup_v, panGroup_v, rStrip_v, lt, dg, dc0, hb, bs_at, hc]
      refine BldA.use (bldWB_h E b acc c hE (by omega)) (SubA.refl _) (SubA.nil _) (dis_nil _) ?_
      intro E3 hE3 _
      rw [List.append_nil]
      intro ν fr; have nuE := fr.nu
      simp (maxDischargeDepth := 16) only [argE_nil, argE_cons, ↓vmD, vmV, vmStd, Nat.reduceMul, ↓reduceIte, Nat.reduceAdd, Nat.reduceSub, Nat.reduceEqDiff, Nat.reduceLT, Nat.reduceLeDiff, reduceCtorEq, Int.reduceToNat, Int.reduceLT, Int.reduceLE, Int.reduceEq, Int.reduceNeg, Int.reduceBEq, Int.reduceBNe, String.reduceEq, forall_const, ↓vmDA, vmVA, ↓vmQA, vmR, vmRA, ↓vmSA, vmSV, tyS, nuE, areDigits_v, panSum_v, rdigits_v, rsum_v, panLuhn_v, rLuhn_v, panCheck_v, rCheck_v, panCd_v, rCd_v, ↓sA_usd, ↓sA_ust, soft_usd, soft_ust, cnvN_pu, cnvN_up, eqS_pp, isPrefix_v, rMake_v, panIndex_v, rIndex_v, panMask_v, rMask_v, panWithin_v, rWithin_v, panDgAt_v, rDgAt_v, rGroup_v, panGroup_v, rStrip_v, we]
      exact LoopA.weak (ih (e := e + 1) (dn := dn ++ [c]) (acc := acc ++ [c]) (d := true) (E := E3) (ha := ha') (h3 := h3') (hk := by rw [hk]; simp only [strL, hb, if_true, Option.map_map]; congr 1; funext x; simp) (hd := by rw [dm, hb]) (hle := by simp; omega) (hE := hE3)) (by simp only [subE, get_cons, Nat.reduceEqDiff, ↓reduceIte, reduceCtorEq, Nat.reduceAdd, and_self, and_true]) (SubA.refl _)
    | false =>
      by_cases hm : c = 32 ∨ c = 45
      · cases d with
        | false =>
          have hv := strV_none (l := l) (by rw [hk]; simp [strL, hb])
          rcases hm with rfl | rfl
          · simp (maxDischargeDepth := 16) only [argE_nil, argE_cons, ↓vmD, vmV, vmStd, Nat.reduceMul, ↓reduceIte, Nat.reduceAdd, Nat.reduceSub, Nat.reduceEqDiff, Nat.reduceLT, Nat.reduceLeDiff, reduceCtorEq, Int.reduceToNat, Int.reduceLT, Int.reduceLE, Int.reduceEq, Int.reduceNeg, Int.reduceBEq, Int.reduceBNe, String.reduceEq, forall_const, ↓vmDA, vmVA, ↓vmQA, vmR, vmRA, ↓vmSA, vmSV, tyS, nuE, areDigits_v, panSum_v, rdigits_v, rsum_v, panLuhn_v, rLuhn_v, panCheck_v, rCheck_v, panCd_v, rCd_v, ↓sA_usd, ↓sA_ust, soft_usd, soft_ust, cnvN_pu, cnvN_up, eqS_pp, isPrefix_v, rMake_v, panIndex_v, rIndex_v, panMask_v, rMask_v, panWithin_v, rWithin_v, panDgAt_v, rDgAt_v, rGroup_v, panGroup_v, rStrip_v, lt, dg, dc0, hb, bs_at, hc, n32, n45, wm, hd, hv, bs_nil, decide_true]
          · simp (maxDischargeDepth := 16) only [argE_nil, argE_cons, ↓vmD, vmV, vmStd, Nat.reduceMul, ↓reduceIte, Nat.reduceAdd, Nat.reduceSub, Nat.reduceEqDiff, Nat.reduceLT, Nat.reduceLeDiff, reduceCtorEq, Int.reduceToNat, Int.reduceLT, Int.reduceLE, Int.reduceEq, Int.reduceNeg, Int.reduceBEq, Int.reduceBNe, String.reduceEq, forall_const, ↓vmDA, vmVA, ↓vmQA, vmR, vmRA, ↓vmSA, vmSV, tyS, nuE, areDigits_v, panSum_v, rdigits_v, rsum_v, panLuhn_v, rLuhn_v, panCheck_v, rCheck_v, panCd_v, rCd_v, ↓sA_usd, ↓sA_ust, soft_usd, soft_ust, cnvN_pu, cnvN_up, eqS_pp, isPrefix_v, rMake_v, panIndex_v, rIndex_v, panMask_v, rMask_v, panWithin_v, rWithin_v, panDgAt_v, rDgAt_v, rGroup_v, panGroup_v, rStrip_v, lt, dg, dc0, hb, bs_at, hc, n32, n45, d45, wm, hd, hv, bs_nil, decide_true]
        | true =>
          cases hn : dgI l ((e + 1 : Nat) : Int) with
          | false =>
            rw [hn] at dn1
            have hv := strV_none (l := l) (by rw [hk]; simp [strL, hb, ← dn1])
            rcases hm with rfl | rfl
            · simp (maxDischargeDepth := 16) only [argE_nil, argE_cons, ↓vmD, vmV, vmStd, Nat.reduceMul, ↓reduceIte, Nat.reduceAdd, Nat.reduceSub, Nat.reduceEqDiff, Nat.reduceLT, Nat.reduceLeDiff, reduceCtorEq, Int.reduceToNat, Int.reduceLT, Int.reduceLE, Int.reduceEq, Int.reduceNeg, Int.reduceBEq, Int.reduceBNe, String.reduceEq, forall_const, ↓vmDA, vmVA, ↓vmQA, vmR, vmRA, ↓vmSA, vmSV, tyS, nuE, areDigits_v, panSum_v, rdigits_v, rsum_v, panLuhn_v, rLuhn_v, panCheck_v, rCheck_v, panCd_v, rCd_v, ↓sA_usd, ↓sA_ust, soft_usd, soft_ust, cnvN_pu, cnvN_up, eqS_pp, isPrefix_v, rMake_v, panIndex_v, rIndex_v, panMask_v, rMask_v, panWithin_v, rWithin_v, panDgAt_v, rDgAt_v, rGroup_v, panGroup_v, rStrip_v, lt, dg, dc0, hb, bs_at, hc, n32, n45, wm, we, hd, hn, hv, bs_nil, decide_true]
            · simp (maxDischargeDepth := 16) only [argE_nil, argE_cons, ↓vmD, vmV, vmStd, Nat.reduceMul, ↓reduceIte, Nat.reduceAdd, Nat.reduceSub, Nat.reduceEqDiff, Nat.reduceLT, Nat.reduceLeDiff, reduceCtorEq, Int.reduceToNat, Int.reduceLT, Int.reduceLE, Int.reduceEq, Int.reduceNeg, Int.reduceBEq, Int.reduceBNe, String.reduceEq, forall_const, ↓vmDA, vmVA, ↓vmQA, vmR, vmRA, ↓vmSA, vmSV, tyS, nuE, areDigits_v, panSum_v, rdigits_v, rsum_v, panLuhn_v, rLuhn_v, panCheck_v, rCheck_v, panCd_v, rCd_v, ↓sA_usd, ↓sA_ust, soft_usd, soft_ust, cnvN_pu, cnvN_up, eqS_pp, isPrefix_v, rMake_v, panIndex_v, rIndex_v, panMask_v, rMask_v, panWithin_v, rWithin_v, panDgAt_v, rDgAt_v, rGroup_v, panGroup_v, rStrip_v, lt, dg, dc0, hb, bs_at, hc, n32, n45, d45, wm, we, hd, hn, hv, bs_nil, decide_true]
          | true =>
            rw [hn] at dn1
            have hk2 : strL false l = (strL false k).map (acc ++ ·) := by rw [hk]; simp only [strL, hb]; rw [if_neg (by simp), if_pos ⟨hm, trivial, dn1.symm⟩]
            rcases hm with rfl | rfl
            · simp (maxDischargeDepth := 16) only [argE_nil, argE_cons, ↓vmD, vmV, vmStd, Nat.reduceMul, ↓reduceIte, Nat.reduceAdd, Nat.reduceSub, Nat.reduceEqDiff, Nat.reduceLT, Nat.reduceLeDiff, reduceCtorEq, Int.reduceToNat, Int.reduceLT, Int.reduceLE, Int.reduceEq, Int.reduceNeg, Int.reduceBEq, Int.reduceBNe, String.reduceEq, forall_const, ↓vmDA, vmVA, ↓vmQA, vmR, vmRA, ↓vmSA, vmSV, tyS, nuE, areDigits_v, panSum_v, rdigits_v, rsum_v, panLuhn_v, rLuhn_v, panCheck_v, rCheck_v, panCd_v, rCd_v, ↓sA_usd, ↓sA_ust, soft_usd, soft_ust, cnvN_pu, cnvN_up, eqS_pp, isPrefix_v, rMake_v, panIndex_v, rIndex_v, panMask_v, rMask_v, panWithin_v, rWithin_v, panDgAt_v, rDgAt_v, rGroup_v, panGroup_v, rStrip_v, lt, dg, dc0, hb, bs_at, hc, n32, n45, wm, we, hd, hn, decide_true]
              exact LoopA.weak (ih (e := e + 1) (dn := dn ++ [32]) (acc := acc) (d := false) (E := E) (ha := ha') (h3 := h3') (hk := hk2) (hd := by rw [dm, hb]) (hle := by omega) (hE := hE)) (by simp only [subE, get_cons, Nat.reduceEqDiff, ↓reduceIte, reduceCtorEq, Nat.reduceAdd, and_self, and_true]) (SubA.refl _)
            · simp (maxDischargeDepth := 16) only [argE_nil, argE_cons, ↓vmD, vmV, vmStd, Nat.reduceMul, ↓reduceIte, Nat.reduceAdd, Nat.reduceSub, Nat.reduceEqDiff, Nat.reduceLT, Nat.reduceLeDiff, reduceCtorEq, Int.reduceToNat, Int.reduceLT, Int.reduceLE, Int.reduceEq, Int.reduceNeg, Int.reduceBEq, Int.reduceBNe, String.reduceEq, forall_const, ↓vmDA, vmVA, ↓vmQA, vmR, vmRA, ↓vmSA, vmSV, tyS, nuE, areDigits_v, panSum_v, rdigits_v, rsum_v, panLuhn_v, rLuhn_v, panCheck_v, rCheck_v, panCd_v, rCd_v, ↓sA_usd, ↓sA_ust, soft_usd, soft_ust, cnvN_pu, cnvN_up, eqS_pp, isPrefix_v, rMake_v, panIndex_v, rIndex_v, panMask_v, rMask_v, panWithin_v, rWithin_v, panDgAt_v, rDgAt_v, rGroup_v, panGroup_v, rStrip_v, lt, dg, dc0, hb, bs_at, hc, n32, n45, d45, wm, we, hd, hn, decide_true]
              exact LoopA.weak (ih (e := e + 1) (dn := dn ++ [45]) (acc := acc) (d := false) (E := E) (ha := ha') (h3 := h3') (hk := hk2) (hd := by rw [dm, hb]) (hle := by omega) (hE := hE)) (by simp only [subE, get_cons, Nat.reduceEqDiff, ↓reduceIte, reduceCtorEq, Nat.reduceAdd, and_self, and_true]) (SubA.refl _)
      · have h1 : ¬ c = 32 := fun h => hm (.inl h)
        have h2 : ¬ c = 45 := fun h => hm (.inr h)
        have hv := strV_none (l := l) (by rw [hk]; simp [strL, hb, h1, h2])
        simp (maxDischargeDepth := 16) only [argE_nil, argE_cons, ↓vmD, vmV, vmStd, Nat.reduceMul, ↓reduceIte, Nat.reduceAdd, Nat.reduceSub, Nat.reduceEqDiff, Nat.reduceLT, Nat.reduceLeDiff, reduceCtorEq, Int.reduceToNat, Int.reduceLT, Int.reduceLE, Int.reduceEq, Int.reduceNeg, Int.reduceBEq, Int.reduceBNe, String.reduceEq, forall_const, ↓vmDA, vmVA, ↓vmQA, vmR, vmRA, ↓vmSA, vmSV, tyS, nuE, areDigits_v, panSum_v, rdigits_v, rsum_v, panLuhn_v, rLuhn_v, panCheck_v, rCheck_v, panCd_v, rCd_v, ↓sA_usd, ↓sA_ust, soft_usd, soft_ust, cnvN_pu, cnvN_up, eqS_pp, isPrefix_v, rMake_v, panIndex_v, rIndex_v, panMask_v, rMask_v, panWithin_v, rWithin_v, panDgAt_v, rDgAt_v, rGroup_v, panGroup_v, rStrip_v, lt, dg, dc0, hb, bs_at, hc, n32, n45, h1, h2, hv, bs_nil]
theorem panStrip_v (l : List UInt8) (hl : l.length ≤ 10000) (A_ : AH) : valA Tryd.prog 27 #[.string (bs l)] A_ = some (strV l) := valA_eq (pureA_of (by kernel_rfl) (panStrip_h l hl))
end Go.Proofs.YtnpjgimkllebhaaDoor
