/-
Card numbers: the walks of finding, masking, comparing, grouping and stripping.
Conditions: none.
-/
import Derived.Test.YtnpjgimkllebhaaDoorPnY
namespace Go.Proofs.YtnpjgimkllebhaaDoor
open Go.Vm
set_option linter.unusedSimpArgs false
set_option linter.unusedVariables false
set_option maxHeartbeats 1000000
set_option maxRecDepth 20000
theorem chk_beq (l : List UInt8) : (chk l == 0) = decide (chk l = 0) := by
  by_cases h : chk l = 0
  · rw [h]; rfl
  · simp [h]
theorem chk_bne (l : List UInt8) : (chk l != 0) = !decide (chk l = 0) := by rw [bne, chk_beq]
theorem panIndex_h (p s : List UInt8) (hp : p.length ≤ 10000) (hs : s.length ≤ 10000) : CallA Tryd.prog 23 #[.string (bs p), .string (bs s)] [] (fun u_ _ => u_ = idxV p s) := by
  refine callA_of_denA ⟨Tryd.prog, 23, Tryd.f23, 41, [0, 1, 4, 5, 6, 8, 30, 31], [], [], _⟩ (args := [_, _]) Tryd.func23 rfl (by kernel_rfl) Tryd.ntmps23 (by simp) (by kernel_rfl) ?_
  intro ν fr; have nuE := fr.nu
  have ck := fun A => panCheck_v s (by omega) A
  have ipv := fun A => isPrefix_v p (by omega) A
  have hpv := fun A => hp_v s p A
  by_cases h0 : chk s = 0
  · obtain ⟨c1, c2, c3, c4⟩ := chk_ok h0
    by_cases hip : ipB p = true
    · have hip2 := hip
      rw [ip_iff] at hip2
      simp only [Bool.and_eq_true, decide_eq_true_eq] at hip2
      by_cases ht : s.take p.length = p
      · have w1 : IntKind.i64.wrap ((s.length : Int) - 1) = ((s.length - 1 : Nat) : Int) := by rw [w_i64 (by omega) (by omega)]; omega
        have b1 : ((p.length : Int) ≤ ((s.length - 1 : Nat) : Int)) = True := eq_true (by omega)
        have b2 : (((s.length - 1 : Nat) : Int) ≤ (s.length : Int)) = True := eq_true (by omega)
        have hv : idxV p s = .tuple #[.int .i64 (dval ((s.take (s.length - 1)).drop p.length) : Int), .bool true] := by
          unfold idxV idxO
          simp [h0, hip2, ht]
        rw [hv]
        have hda : ((s.take (s.length - 1)).drop p.length).all digB = true := List.all_eq_true.2 fun x hx => List.all_eq_true.1 c3 x (List.mem_of_mem_take (List.mem_of_mem_drop hx))
        have hll : ((s.take (s.length - 1)).drop p.length).length ≤ 17 := by simp; omega
        simp (maxDischargeDepth := 16) only [argE_nil, argE_cons, ↓vmD, vmV, vmStd, Nat.reduceMul, ↓reduceIte, Nat.reduceAdd, Nat.reduceSub, Nat.reduceEqDiff, Nat.reduceLT, Nat.reduceLeDiff, reduceCtorEq, Int.reduceToNat, Int.reduceLT, Int.reduceLE, Int.reduceEq, Int.reduceNeg, Int.reduceBEq, Int.reduceBNe, String.reduceEq, forall_const, ↓vmDA, vmVA, ↓vmQA, vmR, vmRA, ↓vmSA, vmSV, tyS, nuE, areDigits_v, panSum_v, rdigits_v, rsum_v, panLuhn_v, rLuhn_v, panCheck_v, rCheck_v, panCd_v, rCd_v, ↓sA_usd, ↓sA_ust, soft_usd, soft_ust, cnvN_pu, cnvN_up, eqS_pp, isPrefix_v, rMake_v, ck, chk_bne, h0, ipv, hip, hpv, ht, bs_size, w1, b1, b2, bs_ext]
        clear hv
        generalize (s.take (s.length - 1)).drop p.length = l at hda hll ⊢
        obtain ⟨e, n, k, dn, he, hn, ha, h3, hq⟩ : ∃ (e n : Nat) (k dn : List UInt8), e = 0 ∧ n = 0 ∧ l = dn ++ k ∧ dn.length = e ∧ n = dval dn := ⟨0, 0, l, [], rfl, rfl, rfl, rfl, rfl⟩
        rw [show Obj.stringIter (bs l) 0 = .stringIter (bs l) e by rw [he]]
        rw [show (6, some (Value.int .i64 0)) = (6, some (Value.int .i64 (n : Int))) by rw [hn]; rfl]
        have dst_ : True := (by simp [nuE]); generalize ν 0 = n0 at dst_  ⊢
        clear he hn nuE fr
        induction k generalizing e dn n with
        | nil =>
          obtain ⟨lt, hd2, hle, dc⟩ := at_nil ha h3
          rw [hd2] at hq
          refine LoopA.intro (by kernel_rfl) ?_
          intro ν fr; have nuE := And.intro (fr.mem (b := n0) (by simp)) (And.intro dst_ fr.nu)
          simp (maxDischargeDepth := 16) only [argE_nil, argE_cons, ↓vmD, vmV, vmStd, Nat.reduceMul, ↓reduceIte, Nat.reduceAdd, Nat.reduceSub, Nat.reduceEqDiff, Nat.reduceLT, Nat.reduceLeDiff, reduceCtorEq, Int.reduceToNat, Int.reduceLT, Int.reduceLE, Int.reduceEq, Int.reduceNeg, Int.reduceBEq, Int.reduceBNe, String.reduceEq, forall_const, ↓vmDA, vmVA, ↓vmQA, vmR, vmRA, ↓vmSA, vmSV, tyS, nuE, areDigits_v, panSum_v, rdigits_v, rsum_v, panLuhn_v, rLuhn_v, panCheck_v, rCheck_v, panCd_v, rCd_v, ↓sA_usd, ↓sA_ust, soft_usd, soft_ust, cnvN_pu, cnvN_up, eqS_pp, isPrefix_v, rMake_v, bs_size, dc, hq]
        | cons c k ih =>
          obtain ⟨lt, we, hc, hle, dc, ha', h3', hlen⟩ := at_cons ha h3 (by omega)
          obtain ⟨hsm, hb⟩ := dval_small ha hll hda
          have b2 := digB_out hb
          obtain ⟨f1, f2, f3, f4, f5⟩ := idx_step n c hb (by omega)
          have dl := dec_low ha h3 (by omega)
          refine LoopA.intro (by kernel_rfl) ?_
          intro ν fr; have nuE := And.intro (fr.mem (b := n0) (by simp)) (And.intro dst_ fr.nu)
          simp (maxDischargeDepth := 16) only [argE_nil, argE_cons, ↓vmD, vmV, vmStd, Nat.reduceMul, ↓reduceIte, Nat.reduceAdd, Nat.reduceSub, Nat.reduceEqDiff, Nat.reduceLT, Nat.reduceLeDiff, reduceCtorEq, Int.reduceToNat, Int.reduceLT, Int.reduceLE, Int.reduceEq, Int.reduceNeg, Int.reduceBEq, Int.reduceBNe, String.reduceEq, forall_const, ↓vmDA, vmVA, ↓vmQA, vmR, vmRA, ↓vmSA, vmSV, tyS, nuE, areDigits_v, panSum_v, rdigits_v, rsum_v, panLuhn_v, rLuhn_v, panCheck_v, rCheck_v, panCd_v, rCd_v, ↓sA_usd, ↓sA_ust, soft_usd, soft_ust, cnvN_pu, cnvN_up, eqS_pp, isPrefix_v, rMake_v, bs_size, dc, dl, f1, f2, f4, f5]
          exact LoopA.weak (ih (e + 1) (10 * n + (c.toNat - 48)) (dn ++ [c]) ha' h3' (by rw [dval_app, hq])) (by simp only [subE, get_cons, Nat.reduceEqDiff, ↓reduceIte, reduceCtorEq, Nat.reduceAdd, and_self, and_true]) (SubE.sub (by simp only [SubE_nil, SubE_cons, look_cons, look_nil, nuE, ↓reduceIte, Nat.reduceEqDiff, and_self, and_true, Nat.reduceAdd]))
      · have hv : idxV p s = .tuple #[.int .i64 0, .bool false] := by unfold idxV idxO; simp [ht]
        simp (maxDischargeDepth := 16) only [argE_nil, argE_cons, ↓vmD, vmV, vmStd, Nat.reduceMul, ↓reduceIte, Nat.reduceAdd, Nat.reduceSub, Nat.reduceEqDiff, Nat.reduceLT, Nat.reduceLeDiff, reduceCtorEq, Int.reduceToNat, Int.reduceLT, Int.reduceLE, Int.reduceEq, Int.reduceNeg, Int.reduceBEq, Int.reduceBNe, String.reduceEq, forall_const, ↓vmDA, vmVA, ↓vmQA, vmR, vmRA, ↓vmSA, vmSV, tyS, nuE, areDigits_v, panSum_v, rdigits_v, rsum_v, panLuhn_v, rLuhn_v, panCheck_v, rCheck_v, panCd_v, rCd_v, ↓sA_usd, ↓sA_ust, soft_usd, soft_ust, cnvN_pu, cnvN_up, eqS_pp, isPrefix_v, rMake_v, ck, chk_bne, h0, ipv, hip, hpv, ht, hv]
    · have hip2 : ipB p = false := by simpa using hip
      have hv : idxV p s = .tuple #[.int .i64 0, .bool false] := by
        unfold idxV idxO
        rw [ip_iff] at hip
        rw [if_neg]
        intro h
        simp only [Bool.and_eq_true, decide_eq_true_eq] at h hip
        refine hip ⟨h.2.1, h.2.2.1, ?_⟩
        rw [← h.2.2.2]
        exact List.all_eq_true.2 fun x hx => List.all_eq_true.1 c3 x (List.mem_of_mem_take hx)
      simp (maxDischargeDepth := 16) only [argE_nil, argE_cons, ↓vmD, vmV, vmStd, Nat.reduceMul, ↓reduceIte, Nat.reduceAdd, Nat.reduceSub, Nat.reduceEqDiff, Nat.reduceLT, Nat.reduceLeDiff, reduceCtorEq, Int.reduceToNat, Int.reduceLT, Int.reduceLE, Int.reduceEq, Int.reduceNeg, Int.reduceBEq, Int.reduceBNe, String.reduceEq, forall_const, ↓vmDA, vmVA, ↓vmQA, vmR, vmRA, ↓vmSA, vmSV, tyS, nuE, areDigits_v, panSum_v, rdigits_v, rsum_v, panLuhn_v, rLuhn_v, panCheck_v, rCheck_v, panCd_v, rCd_v, ↓sA_usd, ↓sA_ust, soft_usd, soft_ust, cnvN_pu, cnvN_up, eqS_pp, isPrefix_v, rMake_v, ck, chk_bne, h0, ipv, hip2, hv]
  · have hv : idxV p s = .tuple #[.int .i64 0, .bool false] := by unfold idxV idxO; simp [h0]
    simp (maxDischargeDepth := 16) only [argE_nil, argE_cons, ↓vmD, vmV, vmStd, Nat.reduceMul, ↓reduceIte, Nat.reduceAdd, Nat.reduceSub, Nat.reduceEqDiff, Nat.reduceLT, Nat.reduceLeDiff, reduceCtorEq, Int.reduceToNat, Int.reduceLT, Int.reduceLE, Int.reduceEq, Int.reduceNeg, Int.reduceBEq, Int.reduceBNe, String.reduceEq, forall_const, ↓vmDA, vmVA, ↓vmQA, vmR, vmRA, ↓vmSA, vmSV, tyS, nuE, areDigits_v, panSum_v, rdigits_v, rsum_v, panLuhn_v, rLuhn_v, panCheck_v, rCheck_v, panCd_v, rCd_v, ↓sA_usd, ↓sA_ust, soft_usd, soft_ust, cnvN_pu, cnvN_up, eqS_pp, isPrefix_v, rMake_v, ck, chk_bne, h0, hv]
theorem panIndex_v (p s : List UInt8) (hp : p.length ≤ 10000) (hs : s.length ≤ 10000) (A_ : AH) : valA Tryd.prog 23 #[.string (bs p), .string (bs s)] A_ = some (idxV p s) := valA_eq (pureA_of (by kernel_rfl) (panIndex_h p s hp hs))
theorem rIndex_h (p s : List UInt8) (hp : p.length ≤ 10000) (hs : s.length ≤ 10000) : CallA Tryd.prog 24 #[.string (bs p), .string (bs s)] [] (fun u_ _ => u_ = idxV p s) := by
  refine callA_of_denA ⟨Tryd.prog, 24, Tryd.f24, 47, [0, 1, 4, 5, 6, 7], [], [], _⟩ (args := [_, _]) Tryd.func24 rfl (by kernel_rfl) Tryd.ntmps24 (by simp) (by kernel_rfl) ?_
  intro ν fr; have nuE := fr.nu
  have ck := fun A => rCheck_v s (by omega) A
  by_cases h0 : chk s = 0
  · obtain ⟨c1, c2, c3, c4⟩ := chk_ok h0
    by_cases h1 : p.length < 1
    · have q1 : ((p.length : Int) < 1) = True := eq_true (by omega)
      have hv : idxV p s = .tuple #[.int .i64 0, .bool false] := by unfold idxV idxO; rw [if_neg]; simp; omega
      simp (maxDischargeDepth := 16) only [argE_nil, argE_cons, ↓vmD, vmV, vmStd, Nat.reduceMul, ↓reduceIte, Nat.reduceAdd, Nat.reduceSub, Nat.reduceEqDiff, Nat.reduceLT, Nat.reduceLeDiff, reduceCtorEq, Int.reduceToNat, Int.reduceLT, Int.reduceLE, Int.reduceEq, Int.reduceNeg, Int.reduceBEq, Int.reduceBNe, String.reduceEq, forall_const, ↓vmDA, vmVA, ↓vmQA, vmR, vmRA, ↓vmSA, vmSV, tyS, nuE, areDigits_v, panSum_v, rdigits_v, rsum_v, panLuhn_v, rLuhn_v, panCheck_v, rCheck_v, panCd_v, rCd_v, ↓sA_usd, ↓sA_ust, soft_usd, soft_ust, cnvN_pu, cnvN_up, eqS_pp, isPrefix_v, rMake_v, panIndex_v, ck, chk_bne, h0, bs_size, q1, hv]
    have q1 : ((p.length : Int) < 1) = False := eq_false (by omega)
    by_cases h10 : 10 < p.length
    · have q2 : ((10 : Int) < (p.length : Int)) = True := eq_true (by omega)
      have hv : idxV p s = .tuple #[.int .i64 0, .bool false] := by unfold idxV idxO; rw [if_neg]; simp; omega
      simp (maxDischargeDepth := 16) only [argE_nil, argE_cons, ↓vmD, vmV, vmStd, Nat.reduceMul, ↓reduceIte, Nat.reduceAdd, Nat.reduceSub, Nat.reduceEqDiff, Nat.reduceLT, Nat.reduceLeDiff, reduceCtorEq, Int.reduceToNat, Int.reduceLT, Int.reduceLE, Int.reduceEq, Int.reduceNeg, Int.reduceBEq, Int.reduceBNe, String.reduceEq, forall_const, ↓vmDA, vmVA, ↓vmQA, vmR, vmRA, ↓vmSA, vmSV, tyS, nuE, areDigits_v, panSum_v, rdigits_v, rsum_v, panLuhn_v, rLuhn_v, panCheck_v, rCheck_v, panCd_v, rCd_v, ↓sA_usd, ↓sA_ust, soft_usd, soft_ust, cnvN_pu, cnvN_up, eqS_pp, isPrefix_v, rMake_v, panIndex_v, ck, chk_bne, h0, bs_size, q1, q2, hv]
    have q2 : ((10 : Int) < (p.length : Int)) = False := eq_false (by omega)
    have b0 : ((p.length : Int) ≤ (s.length : Int)) = True := eq_true (by omega)
    by_cases ht : s.take p.length = p
    · have w1 : IntKind.i64.wrap ((s.length : Int) - 1) = ((s.length - 1 : Nat) : Int) := by rw [w_i64 (by omega) (by omega)]; omega
      have hv : idxV p s = .tuple #[.int .i64 (dval ((s.take (s.length - 1)).drop p.length) : Int), .bool true] := by
        unfold idxV idxO
        simp [h0, ht]
        omega
      rw [hv]
      have hda : ((s.take (s.length - 1)).drop p.length).all digB = true := List.all_eq_true.2 fun x hx => List.all_eq_true.1 c3 x (List.mem_of_mem_take (List.mem_of_mem_drop hx))
      have hll : ((s.take (s.length - 1)).drop p.length).length = s.length - 1 - p.length := by simp
      simp (maxDischargeDepth := 16) only [argE_nil, argE_cons, ↓vmD, vmV, vmStd, Nat.reduceMul, ↓reduceIte, Nat.reduceAdd, Nat.reduceSub, Nat.reduceEqDiff, Nat.reduceLT, Nat.reduceLeDiff, reduceCtorEq, Int.reduceToNat, Int.reduceLT, Int.reduceLE, Int.reduceEq, Int.reduceNeg, Int.reduceBEq, Int.reduceBNe, String.reduceEq, forall_const, ↓vmDA, vmVA, ↓vmQA, vmR, vmRA, ↓vmSA, vmSV, tyS, nuE, areDigits_v, panSum_v, rdigits_v, rsum_v, panLuhn_v, rLuhn_v, panCheck_v, rCheck_v, panCd_v, rCd_v, ↓sA_usd, ↓sA_ust, soft_usd, soft_ust, cnvN_pu, cnvN_up, eqS_pp, isPrefix_v, rMake_v, panIndex_v, ck, chk_bne, h0, bs_size, q1, q2, b0, bs_ext, bs_list, List.drop_zero, ht, take_beq]
      have hget : ∀ i, i < s.length - 1 - p.length → ((s.take (s.length - 1)).drop p.length)[i]? = s[p.length + i]? := by
        intro i hi
        rw [List.getElem?_drop, List.getElem?_take, if_pos (by omega)]
      clear hv
      generalize (s.take (s.length - 1)).drop p.length = l at hda hll hget ⊢
      obtain ⟨e, n, k, dn, he, hn, ha, h3, hq⟩ : ∃ (e n : Nat) (k dn : List UInt8), e = 0 ∧ n = 0 ∧ l = dn ++ k ∧ dn.length = e ∧ n = dval dn := ⟨0, 0, l, [], rfl, rfl, rfl, rfl, rfl⟩
      rw [show (7, some (Value.int .i64 (p.length : Int))) = (7, some (Value.int .i64 ((p.length + e : Nat) : Int))) by rw [he]; rfl]
      rw [show (6, some (Value.int .i64 0)) = (6, some (Value.int .i64 (n : Int))) by rw [hn]; rfl]
      clear he hn nuE fr
      induction k generalizing e dn n with
      | nil =>
        obtain ⟨lt, hd2, hle, dc⟩ := at_nil ha h3
        rw [hd2] at hq
        have lt2 : (((p.length + e : Nat) : Int) < ((s.length - 1 : Nat) : Int)) = False := eq_false (by omega)
        refine LoopA.intro (by kernel_rfl) ?_
        intro ν fr; have nuE := fr.nu
        simp (maxDischargeDepth := 16) only [argE_nil, argE_cons, ↓vmD, vmV, vmStd, Nat.reduceMul, ↓reduceIte, Nat.reduceAdd, Nat.reduceSub, Nat.reduceEqDiff, Nat.reduceLT, Nat.reduceLeDiff, reduceCtorEq, Int.reduceToNat, Int.reduceLT, Int.reduceLE, Int.reduceEq, Int.reduceNeg, Int.reduceBEq, Int.reduceBNe, String.reduceEq, forall_const, ↓vmDA, vmVA, ↓vmQA, vmR, vmRA, ↓vmSA, vmSV, tyS, nuE, areDigits_v, panSum_v, rdigits_v, rsum_v, panLuhn_v, rLuhn_v, panCheck_v, rCheck_v, panCd_v, rCd_v, ↓sA_usd, ↓sA_ust, soft_usd, soft_ust, cnvN_pu, cnvN_up, eqS_pp, isPrefix_v, rMake_v, panIndex_v, bs_size, w1, lt2, hq]
      | cons c k ih =>
        obtain ⟨lt, we, hc, hle, dc, ha', h3', hlen⟩ := at_cons ha h3 (by omega)
        obtain ⟨hsm, hb⟩ := dval_small ha (by omega) hda
        have b2 := digB_out hb
        obtain ⟨f1, f2, f3, f4, f5⟩ := idx_step n c hb (by omega)
        have lt2 : (((p.length + e : Nat) : Int) < ((s.length - 1 : Nat) : Int)) = True := eq_true (by omega)
        have we2 : IntKind.i64.wrap (((p.length + e : Nat) : Int) + 1) = ((p.length + (e + 1) : Nat) : Int) := by rw [w_i64 (by omega) (by omega)]; omega
        have hc2 : s[p.length + e]? = some c := by rw [← hget e (by omega)]; exact hc
        refine LoopA.intro (by kernel_rfl) ?_
        intro ν fr; have nuE := fr.nu
        simp (maxDischargeDepth := 16) only [argE_nil, argE_cons, ↓vmD, vmV, vmStd, Nat.reduceMul, ↓reduceIte, Nat.reduceAdd, Nat.reduceSub, Nat.reduceEqDiff, Nat.reduceLT, Nat.reduceLeDiff, reduceCtorEq, Int.reduceToNat, Int.reduceLT, Int.reduceLE, Int.reduceEq, Int.reduceNeg, Int.reduceBEq, Int.reduceBNe, String.reduceEq, forall_const, ↓vmDA, vmVA, ↓vmQA, vmR, vmRA, ↓vmSA, vmSV, tyS, nuE, areDigits_v, panSum_v, rdigits_v, rsum_v, panLuhn_v, rLuhn_v, panCheck_v, rCheck_v, panCd_v, rCd_v, ↓sA_usd, ↓sA_ust, soft_usd, soft_ust, cnvN_pu, cnvN_up, eqS_pp, isPrefix_v, rMake_v, panIndex_v, bs_size, w1, lt2, bs_at, hc2, f1, f3, f4, f5, we2]
        exact LoopA.weak (ih (e + 1) (10 * n + (c.toNat - 48)) (dn ++ [c]) ha' h3' (by rw [dval_app, hq])) (by simp only [subE, get_cons, Nat.reduceEqDiff, ↓reduceIte, reduceCtorEq, Nat.reduceAdd, and_self, and_true]) (SubA.refl _)
    · have hv : idxV p s = .tuple #[.int .i64 0, .bool false] := by unfold idxV idxO; simp [ht]
      simp (maxDischargeDepth := 16) only [argE_nil, argE_cons, ↓vmD, vmV, vmStd, Nat.reduceMul, ↓reduceIte, Nat.reduceAdd, Nat.reduceSub, Nat.reduceEqDiff, Nat.reduceLT, Nat.reduceLeDiff, reduceCtorEq, Int.reduceToNat, Int.reduceLT, Int.reduceLE, Int.reduceEq, Int.reduceNeg, Int.reduceBEq, Int.reduceBNe, String.reduceEq, forall_const, ↓vmDA, vmVA, ↓vmQA, vmR, vmRA, ↓vmSA, vmSV, tyS, nuE, areDigits_v, panSum_v, rdigits_v, rsum_v, panLuhn_v, rLuhn_v, panCheck_v, rCheck_v, panCd_v, rCd_v, ↓sA_usd, ↓sA_ust, soft_usd, soft_ust, cnvN_pu, cnvN_up, eqS_pp, isPrefix_v, rMake_v, panIndex_v, ck, chk_bne, h0, bs_size, q1, q2, b0, bs_ext, bs_list, List.drop_zero, ht, take_beq, hv]
  · have hv : idxV p s = .tuple #[.int .i64 0, .bool false] := by unfold idxV idxO; simp [h0]
    simp (maxDischargeDepth := 16) only [argE_nil, argE_cons, ↓vmD, vmV, vmStd, Nat.reduceMul, ↓reduceIte, Nat.reduceAdd, Nat.reduceSub, Nat.reduceEqDiff, Nat.reduceLT, Nat.reduceLeDiff, reduceCtorEq, Int.reduceToNat, Int.reduceLT, Int.reduceLE, Int.reduceEq, Int.reduceNeg, Int.reduceBEq, Int.reduceBNe, String.reduceEq, forall_const, ↓vmDA, vmVA, ↓vmQA, vmR, vmRA, ↓vmSA, vmSV, tyS, nuE, areDigits_v, panSum_v, rdigits_v, rsum_v, panLuhn_v, rLuhn_v, panCheck_v, rCheck_v, panCd_v, rCd_v, ↓sA_usd, ↓sA_ust, soft_usd, soft_ust, cnvN_pu, cnvN_up, eqS_pp, isPrefix_v, rMake_v, panIndex_v, ck, chk_bne, h0, hv]
theorem rIndex_v (p s : List UInt8) (hp : p.length ≤ 10000) (hs : s.length ≤ 10000) (A_ : AH) : valA Tryd.prog 24 #[.string (bs p), .string (bs s)] A_ = some (idxV p s) := valA_eq (pureA_of (by kernel_rfl) (rIndex_h p s hp hs))
/-! ### Masks -/
theorem maskL_len (l : List UInt8) : (maskL l).length = l.length := by
  unfold maskL
  split
  · rename_i h
    have := chk_ok h
    simp
    omega
  · simp
theorem mask_get {l : List UInt8} {e : Nat} {c : UInt8} (h : l[e]? = some c) : (maskL l)[e]? = some (if chk l = 0 ∧ (e < 6 ∨ l.length - 4 ≤ e) then c else 42) := by
  have hlt := (List.getElem?_eq_some_iff.1 h).1
  unfold maskL
  split
  · rename_i h0
    obtain ⟨c1, c2, _⟩ := chk_ok h0
    by_cases h6 : e < 6
    · rw [List.append_assoc, List.getElem?_append_left (by simp; omega), List.getElem?_take, if_pos h6, h, if_pos ⟨h0, .inl h6⟩]
    · by_cases h4 : l.length - 4 ≤ e
      · rw [List.getElem?_append_right (by simp; omega), List.getElem?_drop, if_pos ⟨h0, .inr h4⟩, ← h]
        congr 1
        simp
        omega
      · rw [List.getElem?_append_left (by simp; omega), List.getElem?_append_right (by simp; omega), List.getElem?_replicate, if_pos (by simp; omega), if_neg (by rintro ⟨_, h | h⟩ <;> omega)]
  · rename_i h0
    rw [List.getElem?_replicate, if_pos hlt, if_neg (fun h => h0 h.1)]
theorem bs42 : (ByteArray.mk #[42]) = bs [42] := rfl
theorem panMask_h (l : List UInt8) (hl : l.length ≤ 1000) : CallA Tryd.prog 17 #[.string (bs l)] [] (fun u_ _ => u_ = .string (bs (maskL l))) := by
  refine callA_of_denA ⟨Tryd.prog, 17, Tryd.f17, 23, [0, 2, 3], [], [(4, .q false)], _⟩ (args := [_]) Tryd.func17 rfl (by kernel_rfl) Tryd.ntmps17 (by simp) (by kernel_rfl) ?_
  intro ν fr; have nuE := fr.nu
  have ck := fun A => panCheck_v l (by omega) A
  by_cases h0 : chk l = 0
  · obtain ⟨c1, c2, _⟩ := chk_ok h0
    have w1 : IntKind.i64.wrap ((l.length : Int) - 4) = ((l.length - 4 : Nat) : Int) := by rw [w_i64 (by omega) (by omega)]; omega
    have w2 : IntKind.i64.wrap (((l.length - 4 : Nat) : Int) - 6) = ((l.length - 10 : Nat) : Int) := by rw [w_i64 (by omega) (by omega)]; omega
    have b1 : ((6 : Int) ≤ (l.length : Int)) = True := eq_true (by omega)
    have b2 : (((l.length - 4 : Nat) : Int) ≤ (l.length : Int)) = True := eq_true (by omega)
    have rp := fun A => repb_v 42 ⟨#[42]⟩ rfl (l.length - 10) (by omega) A
    have t1 : l.take l.length = l := List.take_length
    have s1 : min 6 l.length + (l.length - 10) ≤ 9223372036854775807 := by omega
    have s2 : min 6 l.length + (l.length - 10) + (l.length - (l.length - 4)) ≤ 9223372036854775807 := by omega
    simp (maxDischargeDepth := 16) only [argE_nil, argE_cons, ↓vmD, vmV, vmStd, Nat.reduceMul, ↓reduceIte, Nat.reduceAdd, Nat.reduceSub, Nat.reduceEqDiff, Nat.reduceLT, Nat.reduceLeDiff, reduceCtorEq, Int.reduceToNat, Int.reduceLT, Int.reduceLE, Int.reduceEq, Int.reduceNeg, Int.reduceBEq, Int.reduceBNe, String.reduceEq, forall_const, ↓vmDA, vmVA, ↓vmQA, vmR, vmRA, ↓vmSA, vmSV, tyS, nuE, areDigits_v, panSum_v, rdigits_v, rsum_v, panLuhn_v, rLuhn_v, panCheck_v, rCheck_v, panCd_v, rCd_v, ↓sA_usd, ↓sA_ust, soft_usd, soft_ust, cnvN_pu, cnvN_up, eqS_pp, isPrefix_v, rMake_v, panIndex_v, rIndex_v, ck, chk_bne, h0, bs_size, w1, w2, b1, b2, bs_ext, rp, bs_app, List.length_append, List.length_replicate, List.length_take, List.length_drop, List.drop_zero, t1, s1, s2, maskL]
  · have rp := fun A => repb_v 42 ⟨#[42]⟩ rfl l.length (by omega) A
    simp (maxDischargeDepth := 16) only [argE_nil, argE_cons, ↓vmD, vmV, vmStd, Nat.reduceMul, ↓reduceIte, Nat.reduceAdd, Nat.reduceSub, Nat.reduceEqDiff, Nat.reduceLT, Nat.reduceLeDiff, reduceCtorEq, Int.reduceToNat, Int.reduceLT, Int.reduceLE, Int.reduceEq, Int.reduceNeg, Int.reduceBEq, Int.reduceBNe, String.reduceEq, forall_const, ↓vmDA, vmVA, ↓vmQA, vmR, vmRA, ↓vmSA, vmSV, tyS, nuE, areDigits_v, panSum_v, rdigits_v, rsum_v, panLuhn_v, rLuhn_v, panCheck_v, rCheck_v, panCd_v, rCd_v, ↓sA_usd, ↓sA_ust, soft_usd, soft_ust, cnvN_pu, cnvN_up, eqS_pp, isPrefix_v, rMake_v, panIndex_v, rIndex_v, ck, chk_bne, h0, bs_size, rp, maskL]
theorem panMask_v (l : List UInt8) (hl : l.length ≤ 1000) (A_ : AH) : valA Tryd.prog 17 #[.string (bs l)] A_ = some (.string (bs (maskL l))) := valA_eq (pureA_of (by kernel_rfl) (panMask_h l hl))
theorem sl_one {l dn k : List UInt8} {c : UInt8} {e : Nat} (ha : l = (dn ++ [c]) ++ k) (h1 : (dn ++ [c]).length = e + 1) (h2 : dn.length = e) : (l.take (e + 1)).drop e = [c] := by
  rw [ha, List.take_left' h1, List.drop_left' h2]
theorem rMask_h (l : List UInt8) (hl : l.length ≤ 1000) : CallA Tryd.prog 18 #[.string (bs l)] [] (fun u_ _ => u_ = .string (bs (maskL l))) := by
  refine callA_of_denA ⟨Tryd.prog, 18, Tryd.f18, 35, [0, 2, 3, 4], [], [], _⟩ (args := [_]) Tryd.func18 rfl (by kernel_rfl) Tryd.ntmps18 (by simp) (by kernel_rfl) ?_
  intro ν fr; have nuE := fr.nu
  have ck := fun A => rCheck_v l (by omega) A
  simp (maxDischargeDepth := 16) only [argE_nil, argE_cons, ↓vmD, vmV, vmStd, Nat.reduceMul, ↓reduceIte, Nat.reduceAdd, Nat.reduceSub, Nat.reduceEqDiff, Nat.reduceLT, Nat.reduceLeDiff, reduceCtorEq, Int.reduceToNat, Int.reduceLT, Int.reduceLE, Int.reduceEq, Int.reduceNeg, Int.reduceBEq, Int.reduceBNe, String.reduceEq, forall_const, ↓vmDA, vmVA, ↓vmQA, vmR, vmRA, ↓vmSA, vmSV, tyS, nuE, areDigits_v, panSum_v, rdigits_v, rsum_v, panLuhn_v, rLuhn_v, panCheck_v, rCheck_v, panCd_v, rCd_v, ↓sA_usd, ↓sA_ust, soft_usd, soft_ust, cnvN_pu, cnvN_up, eqS_pp, isPrefix_v, rMake_v, panIndex_v, rIndex_v, panMask_v]
  obtain ⟨e, k, dn, acc, he, hac, ha, h3, hk⟩ : ∃ (e : Nat) (k dn acc : List UInt8), e = 0 ∧ acc = [] ∧ l = dn ++ k ∧ dn.length = e ∧ acc = (maskL l).take e := ⟨0, l, [], [], rfl, rfl, rfl, rfl, rfl⟩
  rw [show (4, some (Value.int .i64 0)) = (4, some (Value.int .i64 (e : Int))) by rw [he]; rfl]
  rw [show (3, some (Value.string ⟨#[]⟩)) = (3, some (Value.string (bs acc))) by rw [hac]; rfl]
  clear he hac nuE fr
  induction k generalizing e dn acc with
  | nil =>
    obtain ⟨lt, hd2, hle, dc⟩ := at_nil ha h3
    have hm : acc = maskL l := by rw [hk, ← hle, ← maskL_len, List.take_length]
    refine LoopA.intro (by kernel_rfl) ?_
    intro ν fr; have nuE := fr.nu
    simp (maxDischargeDepth := 16) only [argE_nil, argE_cons, ↓vmD, vmV, vmStd, Nat.reduceMul, ↓reduceIte, Nat.reduceAdd, Nat.reduceSub, Nat.reduceEqDiff, Nat.reduceLT, Nat.reduceLeDiff, reduceCtorEq, Int.reduceToNat, Int.reduceLT, Int.reduceLE, Int.reduceEq, Int.reduceNeg, Int.reduceBEq, Int.reduceBNe, String.reduceEq, forall_const, ↓vmDA, vmVA, ↓vmQA, vmR, vmRA, ↓vmSA, vmSV, tyS, nuE, areDigits_v, panSum_v, rdigits_v, rsum_v, panLuhn_v, rLuhn_v, panCheck_v, rCheck_v, panCd_v, rCd_v, ↓sA_usd, ↓sA_ust, soft_usd, soft_ust, cnvN_pu, cnvN_up, eqS_pp, isPrefix_v, rMake_v, panIndex_v, rIndex_v, panMask_v, bs_size, lt, hm]
  | cons c k ih =>
    obtain ⟨lt, we, hc, hle, dc, ha', h3', hlen⟩ := at_cons ha h3 (by omega)
    have mg := mask_get hc
    have hal : acc.length = e := by rw [hk, List.length_take, maskL_len]; omega
    have tk : ∀ x, (maskL l)[e]? = some x → acc ++ [x] = (maskL l).take (e + 1) := fun x hx => by
      rw [List.take_add_one, hx, ← hk]; rfl
    have s1 : acc.length + 1 ≤ 9223372036854775807 := by omega
    have ex : (l.take (e + 1)).drop e = [c] := sl_one ha' h3' h3
    have b1 : ((e : Int) ≤ ((e + 1 : Nat) : Int)) = True := eq_true (by omega)
    have b2 : (((e + 1 : Nat) : Int) ≤ (l.length : Int)) = True := eq_true (by omega)
    refine LoopA.intro (by kernel_rfl) ?_
    intro ν fr; have nuE := fr.nu
    by_cases h0 : chk l = 0
    · obtain ⟨c1, c2, _⟩ := chk_ok h0
      have w1 : IntKind.i64.wrap ((l.length : Int) - 4) = ((l.length - 4 : Nat) : Int) := by rw [w_i64 (by omega) (by omega)]; omega
      by_cases h6 : e < 6
      · have q : ((e : Int) < 6) = True := eq_true (by omega)
        rw [if_pos ⟨h0, .inl h6⟩] at mg
        simp (maxDischargeDepth := 16) only [argE_nil, argE_cons, ↓vmD, vmV, vmStd, Nat.reduceMul, ↓reduceIte, Nat.reduceAdd, Nat.reduceSub, Nat.reduceEqDiff, Nat.reduceLT, Nat.reduceLeDiff, reduceCtorEq, Int.reduceToNat, Int.reduceLT, Int.reduceLE, Int.reduceEq, Int.reduceNeg, Int.reduceBEq, Int.reduceBNe, String.reduceEq, forall_const, ↓vmDA, vmVA, ↓vmQA, vmR, vmRA, ↓vmSA, vmSV, tyS, nuE, areDigits_v, panSum_v, rdigits_v, rsum_v, panLuhn_v, rLuhn_v, panCheck_v, rCheck_v, panCd_v, rCd_v, ↓sA_usd, ↓sA_ust, soft_usd, soft_ust, cnvN_pu, cnvN_up, eqS_pp, isPrefix_v, rMake_v, panIndex_v, rIndex_v, panMask_v, bs_size, lt, ck, chk_beq, h0, q, we, b1, b2, bs_ext, ex, bs_app, List.length_singleton, s1]
        exact LoopA.weak (ih (e + 1) (dn ++ [c]) (acc ++ [c]) ha' h3' (tk _ mg)) (by simp only [subE, get_cons, Nat.reduceEqDiff, ↓reduceIte, reduceCtorEq, Nat.reduceAdd, and_self, and_true]) (SubA.refl _)
      · have q : ((e : Int) < 6) = False := eq_false (by omega)
        by_cases h4 : l.length - 4 ≤ e
        · have q2 : (((l.length - 4 : Nat) : Int) ≤ (e : Int)) = True := eq_true (by omega)
          rw [if_pos ⟨h0, .inr h4⟩] at mg
          simp (maxDischargeDepth := 16) only [argE_nil, argE_cons, ↓vmD, vmV, vmStd, Nat.reduceMul, ↓reduceIte, Nat.reduceAdd, Nat.reduceSub, Nat.reduceEqDiff, Nat.reduceLT, Nat.reduceLeDiff, reduceCtorEq, Int.reduceToNat, Int.reduceLT, Int.reduceLE, Int.reduceEq, Int.reduceNeg, Int.reduceBEq, Int.reduceBNe, String.reduceEq, forall_const, ↓vmDA, vmVA, ↓vmQA, vmR, vmRA, ↓vmSA, vmSV, tyS, nuE, areDigits_v, panSum_v, rdigits_v, rsum_v, panLuhn_v, rLuhn_v, panCheck_v, rCheck_v, panCd_v, rCd_v, ↓sA_usd, ↓sA_ust, soft_usd, soft_ust, cnvN_pu, cnvN_up, eqS_pp, isPrefix_v, rMake_v, panIndex_v, rIndex_v, panMask_v, bs_size, lt, ck, chk_beq, h0, q, q2, w1, we, b1, b2, bs_ext, ex, bs_app, List.length_singleton, s1]
          exact LoopA.weak (ih (e + 1) (dn ++ [c]) (acc ++ [c]) ha' h3' (tk _ mg)) (by simp only [subE, get_cons, Nat.reduceEqDiff, ↓reduceIte, reduceCtorEq, Nat.reduceAdd, and_self, and_true]) (SubA.refl _)
        · have q2 : (((l.length - 4 : Nat) : Int) ≤ (e : Int)) = False := eq_false (by omega)
          rw [if_neg (by rintro ⟨_, h | h⟩ <;> omega)] at mg
          simp (maxDischargeDepth := 16) only [argE_nil, argE_cons, ↓vmD, vmV, vmStd, Nat.reduceMul, ↓reduceIte, Nat.reduceAdd, Nat.reduceSub, Nat.reduceEqDiff, Nat.reduceLT, Nat.reduceLeDiff, reduceCtorEq, Int.reduceToNat, Int.reduceLT, Int.reduceLE, Int.reduceEq, Int.reduceNeg, Int.reduceBEq, Int.reduceBNe, String.reduceEq, forall_const, ↓vmDA, vmVA, ↓vmQA, vmR, vmRA, ↓vmSA, vmSV, tyS, nuE, areDigits_v, panSum_v, rdigits_v, rsum_v, panLuhn_v, rLuhn_v, panCheck_v, rCheck_v, panCd_v, rCd_v, ↓sA_usd, ↓sA_ust, soft_usd, soft_ust, cnvN_pu, cnvN_up, eqS_pp, isPrefix_v, rMake_v, panIndex_v, rIndex_v, panMask_v, bs_size, lt, ck, chk_beq, h0, q, q2, w1, we, bs42, bs_app, List.length_singleton, s1]
          exact LoopA.weak (ih (e + 1) (dn ++ [c]) (acc ++ [42]) ha' h3' (tk _ mg)) (by simp only [subE, get_cons, Nat.reduceEqDiff, ↓reduceIte, reduceCtorEq, Nat.reduceAdd, and_self, and_true]) (SubA.refl _)
    · rw [if_neg (fun h => h0 h.1)] at mg
      simp (maxDischargeDepth := 16) only [argE_nil, argE_cons, ↓vmD, vmV, vmStd, Nat.reduceMul, ↓reduceIte, Nat.reduceAdd, Nat.reduceSub, Nat.reduceEqDiff, Nat.reduceLT, Nat.reduceLeDiff, reduceCtorEq, Int.reduceToNat, Int.reduceLT, Int.reduceLE, Int.reduceEq, Int.reduceNeg, Int.reduceBEq, Int.reduceBNe, String.reduceEq, forall_const, ↓vmDA, vmVA, ↓vmQA, vmR, vmRA, ↓vmSA, vmSV, tyS, nuE, areDigits_v, panSum_v, rdigits_v, rsum_v, panLuhn_v, rLuhn_v, panCheck_v, rCheck_v, panCd_v, rCd_v, ↓sA_usd, ↓sA_ust, soft_usd, soft_ust, cnvN_pu, cnvN_up, eqS_pp, isPrefix_v, rMake_v, panIndex_v, rIndex_v, panMask_v, bs_size, lt, ck, chk_beq, h0, we, bs42, bs_app, List.length_singleton, s1]
      exact LoopA.weak (ih (e + 1) (dn ++ [c]) (acc ++ [42]) ha' h3' (tk _ mg)) (by simp only [subE, get_cons, Nat.reduceEqDiff, ↓reduceIte, reduceCtorEq, Nat.reduceAdd, and_self, and_true]) (SubA.refl _)
theorem rMask_v (l : List UInt8) (hl : l.length ≤ 1000) (A_ : AH) : valA Tryd.prog 18 #[.string (bs l)] A_ = some (.string (bs (maskL l))) := valA_eq (pureA_of (by kernel_rfl) (rMask_h l hl))
end Go.Proofs.YtnpjgimkllebhaaDoor
