/-
Card numbers: the laws of the numbers of a prefix and of groups and masks.
Conditions: none.
-/
import Derived.Test.YtnpjgimkllebhaaDoorPnD
namespace Go.Proofs.YtnpjgimkllebhaaDoor
open Go.Vm
set_option linter.unusedSimpArgs false
set_option linter.unusedVariables false
set_option maxHeartbeats 2000000
set_option maxRecDepth 20000
theorem mkV_err {p : List UInt8} {n len : Int} (h : mkO p n len = false) : mkV p n len = .tuple #[.string (bs []), .int .i64 4] := by unfold mkV; rw [h]; rfl
theorem mk_next {p : List UInt8} {n len : Int} (h : mkO p n len = false) (h0 : 0 ≤ n) : mkO p (n + 1) len = false := by
  cases h1 : mkO p (n + 1) len with
  | false => rfl
  | true =>
    rw [← h]
    unfold mkO at h1 ⊢
    simp only [Bool.and_eq_true, decide_eq_true_eq] at h1 ⊢
    exact (by
      obtain ⟨x1, x2, x3, x4, x5, x6, x7⟩ := h1
      simp only [x1, x2, x3, x4, x5, h0, decide_true, Bool.true_and, Bool.and_true]
      symm
      rw [decide_eq_true_eq]
      have : n.toNat ≤ (n + 1).toNat := by omega
      exact Nat.lt_of_le_of_lt this x7)
theorem numbersLaw_h (A : AH) (hT : TabA A) (p : List UInt8) (n len : Int) (hn0 : -9223372036854775808 ≤ n) (hn1 : n ≤ 9223372036854775807) : CallA Tryd.prog 8 #[.string (bs p), .int .i64 n, .int .i64 len] A (fun u_ A_ => u_ = .bool true ∧ SubA A A_) := by
  refine callA_of_denA ⟨Tryd.prog, 8, Tryd.f8, 108, [0, 1, 2, 6, 7, 8, 9, 10, 11, 12], [], [], _⟩ (args := [_, _, _]) Tryd.func8 rfl (by kernel_rfl) Tryd.ntmps8 (by simp) (by kernel_rfl) ?_
  intro ν fr; have nuE := fr.nu
  have aw := awake04_v A hT
  by_cases h : 100 < p.length
  · have q : ((100 : Int) < (p.length : Int)) = True := eq_true (by omega)
    simp (maxDischargeDepth := 16) only [argE_nil, argE_cons, ↓vmD, vmV, vmStd, Nat.reduceMul, ↓reduceIte, Nat.reduceAdd, Nat.reduceSub, Nat.reduceEqDiff, Nat.reduceLT, Nat.reduceLeDiff, reduceCtorEq, Int.reduceToNat, Int.reduceLT, Int.reduceLE, Int.reduceEq, Int.reduceNeg, Int.reduceBEq, Int.reduceBNe, String.reduceEq, forall_const, ↓vmDA, vmVA, ↓vmQA, vmR, vmRA, ↓vmSA, vmSV, tyS, nuE, SubA.skip, SubA.refl, fr.2, areDigits_v, panSum_v, rdigits_v, rsum_v, panLuhn_v, rLuhn_v, panCheck_v, rCheck_v, panCd_v, rCd_v, ↓sA_usd, ↓sA_ust, soft_usd, soft_ust, cnvN_pu, cnvN_up, eqS_pp, isPrefix_v, rMake_v, panIndex_v, rIndex_v, panMask_v, rMask_v, panWithin_v, rWithin_v, panDgAt_v, rDgAt_v, rGroup_v, panGroup_v, rStrip_v, panStrip_v, bs_size, q, aw]
  have q : ((100 : Int) < (p.length : Int)) = False := eq_false (by omega)
  by_cases h0 : n < 0
  · simp (maxDischargeDepth := 16) only [argE_nil, argE_cons, ↓vmD, vmV, vmStd, Nat.reduceMul, ↓reduceIte, Nat.reduceAdd, Nat.reduceSub, Nat.reduceEqDiff, Nat.reduceLT, Nat.reduceLeDiff, reduceCtorEq, Int.reduceToNat, Int.reduceLT, Int.reduceLE, Int.reduceEq, Int.reduceNeg, Int.reduceBEq, Int.reduceBNe, String.reduceEq, forall_const, ↓vmDA, vmVA, ↓vmQA, vmR, vmRA, ↓vmSA, vmSV, tyS, nuE, SubA.skip, SubA.refl, fr.2, areDigits_v, panSum_v, rdigits_v, rsum_v, panLuhn_v, rLuhn_v, panCheck_v, rCheck_v, panCd_v, rCd_v, ↓sA_usd, ↓sA_ust, soft_usd, soft_ust, cnvN_pu, cnvN_up, eqS_pp, isPrefix_v, rMake_v, panIndex_v, rIndex_v, panMask_v, rMask_v, panWithin_v, rWithin_v, panDgAt_v, rDgAt_v, rGroup_v, panGroup_v, rStrip_v, panStrip_v, bs_size, q, h0, aw]
  by_cases h6 : 1152921504606846976 < n
  · simp (maxDischargeDepth := 16) only [argE_nil, argE_cons, ↓vmD, vmV, vmStd, Nat.reduceMul, ↓reduceIte, Nat.reduceAdd, Nat.reduceSub, Nat.reduceEqDiff, Nat.reduceLT, Nat.reduceLeDiff, reduceCtorEq, Int.reduceToNat, Int.reduceLT, Int.reduceLE, Int.reduceEq, Int.reduceNeg, Int.reduceBEq, Int.reduceBNe, String.reduceEq, forall_const, ↓vmDA, vmVA, ↓vmQA, vmR, vmRA, ↓vmSA, vmSV, tyS, nuE, SubA.skip, SubA.refl, fr.2, areDigits_v, panSum_v, rdigits_v, rsum_v, panLuhn_v, rLuhn_v, panCheck_v, rCheck_v, panCd_v, rCd_v, ↓sA_usd, ↓sA_ust, soft_usd, soft_ust, cnvN_pu, cnvN_up, eqS_pp, isPrefix_v, rMake_v, panIndex_v, rIndex_v, panMask_v, rMask_v, panWithin_v, rWithin_v, panDgAt_v, rDgAt_v, rGroup_v, panGroup_v, rStrip_v, panStrip_v, bs_size, q, h0, h6, aw]
  have w1 : IntKind.i64.wrap (n + 1) = n + 1 := w_i64 (by omega) (by omega)
  have c1 := panMake_v A hT p (by omega) n len hn0 hn1
  have c2 := panMake_v A hT p (by omega) (n + 1) len (by omega) (by omega)
  cases hO : mkO p n len with
  | false =>
    rw [mkV_err hO] at c1
    rw [mkV_err (mk_next hO (by omega))] at c2
    have e0 : (bs []).toList = [] := bs_list []
    simp (maxDischargeDepth := 16) only [argE_nil, argE_cons, ↓vmD, vmV, vmStd, Nat.reduceMul, ↓reduceIte, Nat.reduceAdd, Nat.reduceSub, Nat.reduceEqDiff, Nat.reduceLT, Nat.reduceLeDiff, reduceCtorEq, Int.reduceToNat, Int.reduceLT, Int.reduceLE, Int.reduceEq, Int.reduceNeg, Int.reduceBEq, Int.reduceBNe, String.reduceEq, forall_const, ↓vmDA, vmVA, ↓vmQA, vmR, vmRA, ↓vmSA, vmSV, tyS, nuE, SubA.skip, SubA.refl, fr.2, areDigits_v, panSum_v, rdigits_v, rsum_v, panLuhn_v, rLuhn_v, panCheck_v, rCheck_v, panCd_v, rCd_v, ↓sA_usd, ↓sA_ust, soft_usd, soft_ust, cnvN_pu, cnvN_up, eqS_pp, isPrefix_v, rMake_v, panIndex_v, rIndex_v, panMask_v, rMask_v, panWithin_v, rWithin_v, panDgAt_v, rDgAt_v, rGroup_v, panGroup_v, rStrip_v, panStrip_v, bs_size, q, h0, h6, w1, c1, c2, e0, aw, BEq.rfl]
  | true =>
    obtain ⟨a, b, rfl, rfl, m1, m2, m3, m4, m5, m6⟩ := mkO_out hO
    have hv : mkV p (a : Int) (b : Int) = .tuple #[.string (bs (mkL p (b - 1 - p.length) a)), .int .i64 0] := by unfold mkV; rw [hO]; rfl
    rw [hv] at c1
    have ix := fun A => panIndex_v p (mkL p (b - 1 - p.length) a) (by omega) (by rw [mkL_len]; omega) A
    rw [idx_mk m5 m3 m4 (by omega) (by omega) m6] at ix
    have ck := fun A => panCheck_v (mkL p (b - 1 - p.length) a) (by rw [mkL_len]; omega) A
    rw [mkL_chk m5 (by omega) (by omega)] at ck
    have ln : (mkL p (b - 1 - p.length) a).length = b := by rw [mkL_len]; omega
    have tk : (mkL p (b - 1 - p.length) a).take p.length = p := by simp [mkL, List.append_assoc]
    have q1 : ((b : Int) != (b : Int)) = false := by simp
    have q2 : ((b : Int) < (p.length : Int)) = False := eq_false (by omega)
    have q3 : ((p.length : Int) ≤ (b : Int)) = True := eq_true (by omega)
    have q4 : ((a : Int) != (a : Int)) = false := by simp
    cases hO2 : mkO p ((a : Int) + 1) (b : Int) with
    | false =>
      rw [mkV_err hO2] at c2
      have e0 : (bs []).toList = [] := bs_list []
      simp (maxDischargeDepth := 16) only [argE_nil, argE_cons, ↓vmD, vmV, vmStd, Nat.reduceMul, ↓reduceIte, Nat.reduceAdd, Nat.reduceSub, Nat.reduceEqDiff, Nat.reduceLT, Nat.reduceLeDiff, reduceCtorEq, Int.reduceToNat, Int.reduceLT, Int.reduceLE, Int.reduceEq, Int.reduceNeg, Int.reduceBEq, Int.reduceBNe, String.reduceEq, forall_const, ↓vmDA, vmVA, ↓vmQA, vmR, vmRA, ↓vmSA, vmSV, tyS, nuE, SubA.skip, SubA.refl, fr.2, areDigits_v, panSum_v, rdigits_v, rsum_v, panLuhn_v, rLuhn_v, panCheck_v, rCheck_v, panCd_v, rCd_v, ↓sA_usd, ↓sA_ust, soft_usd, soft_ust, cnvN_pu, cnvN_up, eqS_pp, isPrefix_v, rMake_v, panIndex_v, rIndex_v, panMask_v, rMask_v, panWithin_v, rWithin_v, panDgAt_v, rDgAt_v, rGroup_v, panGroup_v, rStrip_v, panStrip_v, bs_size, q, h0, h6, w1, c1, c2, ix, ck, ln, tk, q1, q2, q3, q4, bs_ext, bs_list, List.drop_zero, take_beq, decide_true, e0, aw, BEq.rfl]
    | true =>
      obtain ⟨a2, b2, ha2, hb2, _, _, _, _, _, m7⟩ := mkO_out hO2
      have ea : a2 = a + 1 := by omega
      have eb : b2 = b := by omega
      subst ea
      subst eb
      have hv2 : mkV p ((a : Int) + 1) (b2 : Int) = .tuple #[.string (bs (mkL p (b2 - 1 - p.length) (a + 1))), .int .i64 0] := by unfold mkV; rw [hO2]; rfl
      rw [hv2] at c2
      have ls := less_mk p (m := a) (n := a + 1) (w := b2 - 1 - p.length) (by omega) m7
      simp (maxDischargeDepth := 16) only [argE_nil, argE_cons, ↓vmD, vmV, vmStd, Nat.reduceMul, ↓reduceIte, Nat.reduceAdd, Nat.reduceSub, Nat.reduceEqDiff, Nat.reduceLT, Nat.reduceLeDiff, reduceCtorEq, Int.reduceToNat, Int.reduceLT, Int.reduceLE, Int.reduceEq, Int.reduceNeg, Int.reduceBEq, Int.reduceBNe, String.reduceEq, forall_const, ↓vmDA, vmVA, ↓vmQA, vmR, vmRA, ↓vmSA, vmSV, tyS, nuE, SubA.skip, SubA.refl, fr.2, areDigits_v, panSum_v, rdigits_v, rsum_v, panLuhn_v, rLuhn_v, panCheck_v, rCheck_v, panCd_v, rCd_v, ↓sA_usd, ↓sA_ust, soft_usd, soft_ust, cnvN_pu, cnvN_up, eqS_pp, isPrefix_v, rMake_v, panIndex_v, rIndex_v, panMask_v, rMask_v, panWithin_v, rWithin_v, panDgAt_v, rDgAt_v, rGroup_v, panGroup_v, rStrip_v, panStrip_v, bs_size, q, h0, h6, w1, c1, c2, ix, ck, ln, tk, q1, q2, q3, q4, bs_ext, bs_list, List.drop_zero, take_beq, decide_true, ls, aw, BEq.rfl]
theorem numbersLaw_w (A : AH) (hT : TabA A) (p : List UInt8) (n len : Int) (hn0 : -9223372036854775808 ≤ n) (hn1 : n ≤ 9223372036854775807) (B_ : AH) (hB_ : SubA A B_) : valA Tryd.prog 8 #[.string (bs p), .int .i64 n, .int .i64 len] B_ = some (.bool true) := valA_eq (pureA_at (by kernel_rfl) (numbersLaw_h A hT p n len hn0 hn1) hB_)
theorem numbersLaw_v (A : AH) (hT : TabA A) (p : List UInt8) (n len : Int) (hn0 : -9223372036854775808 ≤ n) (hn1 : n ≤ 9223372036854775807) : valA Tryd.prog 8 #[.string (bs p), .int .i64 n, .int .i64 len] A = some (.bool true) := valA_eq (pureA_at (by kernel_rfl) (numbersLaw_h A hT p n len hn0 hn1) (SubA.refl _))
/-! ### Groups and masks -/
theorem mask_take {l : List UInt8} (h : chk l = 0) : (maskL l).take 6 = l.take 6 := by
  obtain ⟨c1, c2, _⟩ := chk_ok h
  unfold maskL
  rw [if_pos h, List.append_assoc, List.take_append_of_le_length (by simp; omega), List.take_take]
  rfl
theorem mask_drop {l : List UInt8} (h : chk l = 0) : (maskL l).drop (l.length - 4) = l.drop (l.length - 4) := by
  obtain ⟨c1, c2, _⟩ := chk_ok h
  unfold maskL
  rw [if_pos h, List.drop_left' (by simp; omega)]
theorem groupsLaw_h (A : AH) (hT : TabA A) (l : List UInt8) : CallA Tryd.prog 9 #[.string (bs l)] A (fun u_ A_ => u_ = .bool true ∧ SubA A A_) := by
  refine callA_of_denA ⟨Tryd.prog, 9, Tryd.f9, 75, [0, 2, 3, 4, 5, 6], [], [(12, .q false)], _⟩ (args := [_]) Tryd.func9 rfl (by kernel_rfl) Tryd.ntmps9 (by simp) (by kernel_rfl) ?_
  intro ν fr; have nuE := fr.nu
  have aw := awake04_v A hT
  by_cases h : 100 < l.length
  · have q : ((100 : Int) < (l.length : Int)) = True := eq_true (by omega)
    simp (maxDischargeDepth := 16) only [argE_nil, argE_cons, ↓vmD, vmV, vmStd, Nat.reduceMul, ↓reduceIte, Nat.reduceAdd, Nat.reduceSub, Nat.reduceEqDiff, Nat.reduceLT, Nat.reduceLeDiff, reduceCtorEq, Int.reduceToNat, Int.reduceLT, Int.reduceLE, Int.reduceEq, Int.reduceNeg, Int.reduceBEq, Int.reduceBNe, String.reduceEq, forall_const, ↓vmDA, vmVA, ↓vmQA, vmR, vmRA, ↓vmSA, vmSV, tyS, nuE, SubA.skip, SubA.refl, fr.2, areDigits_v, panSum_v, rdigits_v, rsum_v, panLuhn_v, rLuhn_v, panCheck_v, rCheck_v, panCd_v, rCd_v, ↓sA_usd, ↓sA_ust, soft_usd, soft_ust, cnvN_pu, cnvN_up, eqS_pp, isPrefix_v, rMake_v, panIndex_v, rIndex_v, panMask_v, rMask_v, panWithin_v, rWithin_v, panDgAt_v, rDgAt_v, rGroup_v, panGroup_v, rStrip_v, panStrip_v, bs_size, q, aw]
  have q : ((100 : Int) < (l.length : Int)) = False := eq_false (by omega)
  have ck := fun A => panCheck_v l (by omega) A
  by_cases hc : chk l = 0
  · obtain ⟨c1, c2, c3, c4⟩ := chk_ok hc
    have gr := fun A => panGroup_v l (by omega) A
    have st := fun A => panStrip_v (grpL 0 l) (by have := grp_len l 0; omega) A
    have hs : strV (grpL 0 l) = .tuple #[.string (bs l), .int .i64 0] := by
      unfold strV
      rw [str_grp l 0 false c3 (by omega)]
      simp [hc]
    rw [hs] at st
    have mk := fun A => panMask_v l (by omega) A
    have ml := maskL_len l
    have q1 : ((l.length : Int) != (l.length : Int)) = false := by simp
    have q2 : ((l.length : Int) < 12) = False := eq_false (by omega)
    have w1 : IntKind.i64.wrap ((l.length : Int) - 4) = ((l.length - 4 : Nat) : Int) := by rw [w_i64 (by omega) (by omega)]; omega
    have lr : (l != l) = false := by simp
    simp (maxDischargeDepth := 16) only [argE_nil, argE_cons, ↓vmD, vmV, vmStd, Nat.reduceMul, ↓reduceIte, Nat.reduceAdd, Nat.reduceSub, Nat.reduceEqDiff, Nat.reduceLT, Nat.reduceLeDiff, reduceCtorEq, Int.reduceToNat, Int.reduceLT, Int.reduceLE, Int.reduceEq, Int.reduceNeg, Int.reduceBEq, Int.reduceBNe, String.reduceEq, forall_const, ↓vmDA, vmVA, ↓vmQA, vmR, vmRA, ↓vmSA, vmSV, tyS, nuE, SubA.skip, SubA.refl, fr.2, areDigits_v, panSum_v, rdigits_v, rsum_v, panLuhn_v, rLuhn_v, panCheck_v, rCheck_v, panCd_v, rCd_v, ↓sA_usd, ↓sA_ust, soft_usd, soft_ust, cnvN_pu, cnvN_up, eqS_pp, isPrefix_v, rMake_v, panIndex_v, rIndex_v, panMask_v, rMask_v, panWithin_v, rWithin_v, panDgAt_v, rDgAt_v, rGroup_v, panGroup_v, rStrip_v, panStrip_v, bs_size, q, ck, hc, gr, st, mk, ml, q1, q2, bs_list, BEq.rfl, bne_self_eq_false]
    obtain ⟨e, k, he, hek⟩ : ∃ e k, e = 6 ∧ e + k = l.length - 4 := ⟨6, l.length - 10, rfl, by omega⟩
    have h6 : 6 ≤ e := by omega
    rw [show (6, some (Value.int .i64 6)) = (6, some (Value.int .i64 (e : Int))) by rw [he]; rfl]
    clear he nuE fr
    induction k generalizing e with
    | zero =>
      have lt : ((e : Int) < ((l.length - 4 : Nat) : Int)) = False := eq_false (by omega)
      have b1 : ((6 : Int) ≤ (l.length : Int)) = True := eq_true (by omega)
      have b2 : (((l.length - 4 : Nat) : Int) ≤ (l.length : Int)) = True := eq_true (by omega)
      have t1 : (maskL l).take l.length = maskL l := by rw [← maskL_len]; exact List.take_length
      have t2 : l.take l.length = l := List.take_length
      refine LoopA.intro (by kernel_rfl) ?_
      intro ν fr; have nuE := fr.nu
      simp (maxDischargeDepth := 16) only [argE_nil, argE_cons, ↓vmD, vmV, vmStd, Nat.reduceMul, ↓reduceIte, Nat.reduceAdd, Nat.reduceSub, Nat.reduceEqDiff, Nat.reduceLT, Nat.reduceLeDiff, reduceCtorEq, Int.reduceToNat, Int.reduceLT, Int.reduceLE, Int.reduceEq, Int.reduceNeg, Int.reduceBEq, Int.reduceBNe, String.reduceEq, forall_const, ↓vmDA, vmVA, ↓vmQA, vmR, vmRA, ↓vmSA, vmSV, tyS, nuE, SubA.skip, SubA.refl, fr.2, areDigits_v, panSum_v, rdigits_v, rsum_v, panLuhn_v, rLuhn_v, panCheck_v, rCheck_v, panCd_v, rCd_v, ↓sA_usd, ↓sA_ust, soft_usd, soft_ust, cnvN_pu, cnvN_up, eqS_pp, isPrefix_v, rMake_v, panIndex_v, rIndex_v, panMask_v, rMask_v, panWithin_v, rWithin_v, panDgAt_v, rDgAt_v, rGroup_v, panGroup_v, rStrip_v, panStrip_v, bs_size, ml, w1, lt, b1, b2, bs_ext, bs_list, List.drop_zero, t1, t2, mask_take hc, mask_drop hc, BEq.rfl, aw]
    | succ k ih =>
      have lt : ((e : Int) < ((l.length - 4 : Nat) : Int)) = True := eq_true (by omega)
      have we : IntKind.i64.wrap ((e : Int) + 1) = ((e + 1 : Nat) : Int) := by rw [w_i64 (by omega) (by omega)]; omega
      have mg : (maskL l)[e]? = some 42 := by
        rw [mask_get (List.getElem?_eq_getElem (show e < l.length by omega)), if_neg (by rintro ⟨_, h | h⟩ <;> omega)]
      have n42 : (((42 : UInt8).toNat : Int) != 42) = false := rfl
      refine LoopA.intro (by kernel_rfl) ?_
      intro ν fr; have nuE := fr.nu
      simp (maxDischargeDepth := 16) only [argE_nil, argE_cons, ↓vmD, vmV, vmStd, Nat.reduceMul, ↓reduceIte, Nat.reduceAdd, Nat.reduceSub, Nat.reduceEqDiff, Nat.reduceLT, Nat.reduceLeDiff, reduceCtorEq, Int.reduceToNat, Int.reduceLT, Int.reduceLE, Int.reduceEq, Int.reduceNeg, Int.reduceBEq, Int.reduceBNe, String.reduceEq, forall_const, ↓vmDA, vmVA, ↓vmQA, vmR, vmRA, ↓vmSA, vmSV, tyS, nuE, SubA.skip, SubA.refl, fr.2, areDigits_v, panSum_v, rdigits_v, rsum_v, panLuhn_v, rLuhn_v, panCheck_v, rCheck_v, panCd_v, rCd_v, ↓sA_usd, ↓sA_ust, soft_usd, soft_ust, cnvN_pu, cnvN_up, eqS_pp, isPrefix_v, rMake_v, panIndex_v, rIndex_v, panMask_v, rMask_v, panWithin_v, rWithin_v, panDgAt_v, rDgAt_v, rGroup_v, panGroup_v, rStrip_v, panStrip_v, bs_size, ml, w1, lt, bs_at, mg, n42, we]
      exact LoopA.weak (ih (e + 1) (by omega) (by omega)) (by simp only [subE, get_cons, Nat.reduceEqDiff, ↓reduceIte, reduceCtorEq, Nat.reduceAdd, and_self, and_true]) (SubA.refl _)
  · simp (maxDischargeDepth := 16) only [argE_nil, argE_cons, ↓vmD, vmV, vmStd, Nat.reduceMul, ↓reduceIte, Nat.reduceAdd, Nat.reduceSub, Nat.reduceEqDiff, Nat.reduceLT, Nat.reduceLeDiff, reduceCtorEq, Int.reduceToNat, Int.reduceLT, Int.reduceLE, Int.reduceEq, Int.reduceNeg, Int.reduceBEq, Int.reduceBNe, String.reduceEq, forall_const, ↓vmDA, vmVA, ↓vmQA, vmR, vmRA, ↓vmSA, vmSV, tyS, nuE, SubA.skip, SubA.refl, fr.2, areDigits_v, panSum_v, rdigits_v, rsum_v, panLuhn_v, rLuhn_v, panCheck_v, rCheck_v, panCd_v, rCd_v, ↓sA_usd, ↓sA_ust, soft_usd, soft_ust, cnvN_pu, cnvN_up, eqS_pp, isPrefix_v, rMake_v, panIndex_v, rIndex_v, panMask_v, rMask_v, panWithin_v, rWithin_v, panDgAt_v, rDgAt_v, rGroup_v, panGroup_v, rStrip_v, panStrip_v, bs_size, q, ck, chk_bne, hc, aw]
theorem groupsLaw_w (A : AH) (hT : TabA A) (l : List UInt8) (B_ : AH) (hB_ : SubA A B_) : valA Tryd.prog 9 #[.string (bs l)] B_ = some (.bool true) := valA_eq (pureA_at (by kernel_rfl) (groupsLaw_h A hT l) hB_)
theorem groupsLaw_v (A : AH) (hT : TabA A) (l : List UInt8) : valA Tryd.prog 9 #[.string (bs l)] A = some (.bool true) := valA_eq (pureA_at (by kernel_rfl) (groupsLaw_h A hT l) (SubA.refl _))
theorem wf_u8 {n : Int} (h : (Lit.int .u8 n).wf = true) : ∃ a : Nat, n = a ∧ a < 256 := by
  simp [Lit.wf, IntKind.min, IntKind.max, IntKind.bits, IntKind.signed] at h
  exact ⟨n.toNat, by omega, by omega⟩
theorem detects_walk (w : World) (ht : Lib.TabIs Tryd.prog w "internal/strconv.uint64pow10" .u64 Lib.pow10Tab) (s : ByteArray) (a : Int) (wa : (Lit.int .u8 a).wf = true) (d : Int) (wd : (Lit.int .u8 d).wf = true) :
    CallsH Tryd.prog 7 #[.string s, .int .u8 a, .int .u8 d] w.heap fun e h' => e = .returned (.bool true) ∧ Grew w.heap h' := by
  obtain ⟨A, hA, hT⟩ := TabA.of ht
  obtain ⟨a, rfl, ha⟩ := wf_u8 wa
  obtain ⟨d, rfl, hd⟩ := wf_u8 wd
  rw [bs_of s]
  exact callsH_of_pure (detectsLaw_v A hT s.data.toList a d ha hd) (by kernel_rfl) hA
theorem numbers_walk (w : World) (ht : Lib.TabIs Tryd.prog w "internal/strconv.uint64pow10" .u64 Lib.pow10Tab) (p : ByteArray) (n : Int) (wn : (Lit.int .i64 n).wf = true) (len : Int) (wl : (Lit.int .i64 len).wf = true) :
    CallsH Tryd.prog 8 #[.string p, .int .i64 n, .int .i64 len] w.heap fun e h' => e = .returned (.bool true) ∧ Grew w.heap h' := by
  obtain ⟨A, hA, hT⟩ := TabA.of ht
  rw [bs_of p]
  exact callsH_of_pure (numbersLaw_v A hT p.data.toList n len (wf_i64 wn).1 (wf_i64 wn).2) (by kernel_rfl) hA
theorem groups_walk (w : World) (ht : Lib.TabIs Tryd.prog w "internal/strconv.uint64pow10" .u64 Lib.pow10Tab) (s : ByteArray) :
    CallsH Tryd.prog 9 #[.string s] w.heap fun e h' => e = .returned (.bool true) ∧ Grew w.heap h' := by
  obtain ⟨A, hA, hT⟩ := TabA.of ht
  rw [bs_of s]
  exact callsH_of_pure (groupsLaw_v A hT s.data.toList) (by kernel_rfl) hA
end Go.Proofs.YtnpjgimkllebhaaDoor
