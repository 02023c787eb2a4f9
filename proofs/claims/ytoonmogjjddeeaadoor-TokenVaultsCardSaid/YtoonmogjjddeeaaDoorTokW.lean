/-
Tokens: the walks of names, numbers and places.
Conditions: none.
-/
import Derived.Test.YtoonmogjjddeeaaDoorTokM
namespace Go.Proofs.YtoonmogjjddeeaaDoor
open Go.Vm
set_option linter.unusedSimpArgs false
set_option linter.unusedVariables false
set_option maxHeartbeats 2000000
set_option maxRecDepth 20000
theorem isLet_h (c : UInt8) : CallA Tryd.prog 50 #[.int .u8 (c.toNat : Int)] [] (fun u_ _ => u_ = .bool (letN c.toNat)) := by
  refine callA_of_denA ⟨Tryd.prog, 50, Tryd.f50, 17, [0, 2], [], [], _⟩ (args := [_]) Tryd.func50 rfl (by kernel_rfl) Tryd.ntmps50 (by simp) (by kernel_rfl) ?_
  intro ν fr; have nuE := fr.nu
  have e1 : ((97 : Int) ≤ (c.toNat : Int)) = (97 ≤ c.toNat) := by simp; omega
  have e2 : ((c.toNat : Int) ≤ 122) = (c.toNat ≤ 122) := by simp; omega
  have e3 : ((65 : Int) ≤ (c.toNat : Int)) = (65 ≤ c.toNat) := by simp; omega
  have e4 : ((c.toNat : Int) ≤ 90) = (c.toNat ≤ 90) := by simp; omega
  simp (maxDischargeDepth := 16) only [argE_nil, argE_cons, ↓vmD, vmV, vmStd, Nat.reduceMul, ↓reduceIte, Nat.reduceAdd, Nat.reduceSub, Nat.reduceEqDiff, Nat.reduceLT, Nat.reduceLeDiff, reduceCtorEq, Int.reduceToNat, Int.reduceLT, Int.reduceLE, Int.reduceEq, Int.reduceNeg, Int.reduceBEq, Int.reduceBNe, String.reduceEq, forall_const, ↓vmDA, vmVA, ↓vmQA, vmR, vmRA, ↓vmSA, vmSV, tyS, nuE, areDigits_v, panSum_v, rdigits_v, rsum_v, panLuhn_v, rLuhn_v, panCheck_v, rCheck_v, panCd_v, rCd_v, isPrefix_v, rMake_v, e1, e2, e3, e4, letN]
theorem isLet_v (c : UInt8) (A_ : AH) : valA Tryd.prog 50 #[.int .u8 (c.toNat : Int)] A_ = some (.bool (letN c.toNat)) := valA_eq (pureA_of (by kernel_rfl) (isLet_h c))
theorem u8_bne (c : UInt8) (n : Nat) (hn : n < 256) : ((c.toNat : Int) != (n : Int)) = !decide (c.toNat = n) := by
  by_cases h : c.toNat = n
  · rw [h]; simp
  · simp [h]; omega
theorem isId_h (l : List UInt8) (hl : l.length ≤ 1000000) : CallA Tryd.prog 31 #[.string (bs l)] [] (fun u_ _ => u_ = .bool (idB l)) := by
  refine callA_of_denA ⟨Tryd.prog, 31, Tryd.f31, 40, [0, 2, 3, 4, 6, 7], [], [], _⟩ (args := [_]) Tryd.func31 rfl (by kernel_rfl) Tryd.ntmps31 (by simp) (by kernel_rfl) ?_
  intro ν fr; have nuE := fr.nu
  simp (maxDischargeDepth := 16) only [argE_nil, argE_cons, ↓vmD, vmV, vmStd, Nat.reduceMul, ↓reduceIte, Nat.reduceAdd, Nat.reduceSub, Nat.reduceEqDiff, Nat.reduceLT, Nat.reduceLeDiff, reduceCtorEq, Int.reduceToNat, Int.reduceLT, Int.reduceLE, Int.reduceEq, Int.reduceNeg, Int.reduceBEq, Int.reduceBNe, String.reduceEq, forall_const, ↓vmDA, vmVA, ↓vmQA, vmR, vmRA, ↓vmSA, vmSV, tyS, nuE, areDigits_v, panSum_v, rdigits_v, rsum_v, panLuhn_v, rLuhn_v, panCheck_v, rCheck_v, panCd_v, rCd_v, isPrefix_v, rMake_v, isLet_v, bs_size]
  obtain ⟨e, k, dn, he, ha, h3, hd⟩ : ∃ (e : Nat) (k dn : List UInt8), e = 0 ∧ l = dn ++ k ∧ dn.length = e ∧ dn.all (fun c => idN c.toNat) = true := ⟨0, l, [], rfl, rfl, rfl, rfl⟩
  rw [show (7, some (Value.int .i64 0)) = (7, some (Value.int .i64 (e : Int))) by rw [he]; rfl]
  clear he nuE fr
  induction k generalizing e dn with
  | nil =>
    obtain ⟨lt, hd2, hle, dc⟩ := at_nil ha h3
    rw [hd2] at hd
    refine LoopA.intro (by kernel_rfl) ?_
    intro ν fr; have nuE := fr.nu
    by_cases h0 : l.length = 0
    · have ie : l.isEmpty = true := by rw [List.eq_nil_of_length_eq_zero h0]; rfl
      have hv : idB l = false := by unfold idB; simp [h0]
      simp (maxDischargeDepth := 16) only [argE_nil, argE_cons, ↓vmD, vmV, vmStd, Nat.reduceMul, ↓reduceIte, Nat.reduceAdd, Nat.reduceSub, Nat.reduceEqDiff, Nat.reduceLT, Nat.reduceLeDiff, reduceCtorEq, Int.reduceToNat, Int.reduceLT, Int.reduceLE, Int.reduceEq, Int.reduceNeg, Int.reduceBEq, Int.reduceBNe, String.reduceEq, forall_const, ↓vmDA, vmVA, ↓vmQA, vmR, vmRA, ↓vmSA, vmSV, tyS, nuE, areDigits_v, panSum_v, rdigits_v, rsum_v, panLuhn_v, rLuhn_v, panCheck_v, rCheck_v, panCd_v, rCd_v, isPrefix_v, rMake_v, isLet_v, lt, bs_ne, ie, hv]
    · have ie : l.isEmpty = false := by
        cases hx : l with
        | nil => rw [hx] at h0; simp at h0
        | cons c k => rfl
      have q : ((l.length : Int) ≤ 16) = (l.length ≤ 16) := propext ⟨fun h => by omega, fun h => by omega⟩
      have q1 : 1 ≤ l.length := by omega
      simp (maxDischargeDepth := 16) only [argE_nil, argE_cons, ↓vmD, vmV, vmStd, Nat.reduceMul, ↓reduceIte, Nat.reduceAdd, Nat.reduceSub, Nat.reduceEqDiff, Nat.reduceLT, Nat.reduceLeDiff, reduceCtorEq, Int.reduceToNat, Int.reduceLT, Int.reduceLE, Int.reduceEq, Int.reduceNeg, Int.reduceBEq, Int.reduceBNe, String.reduceEq, forall_const, ↓vmDA, vmVA, ↓vmQA, vmR, vmRA, ↓vmSA, vmSV, tyS, nuE, areDigits_v, panSum_v, rdigits_v, rsum_v, panLuhn_v, rLuhn_v, panCheck_v, rCheck_v, panCd_v, rCd_v, isPrefix_v, rMake_v, isLet_v, lt, bs_ne, bs_size, ie, q, idB, hd, q1]
  | cons c k ih =>
    obtain ⟨lt, we, hc, hle, dc, ha', h3', hlen⟩ := at_cons ha h3 (by omega)
    have c1 : ((c.toNat : Int) < 48) = (c.toNat < 48) := by simp; omega
    have c2 : ((57 : Int) < (c.toNat : Int)) = (57 < c.toNat) := by simp; omega
    have n1 : ((c.toNat : Int) != 95) = !decide (c.toNat = 95) := u8_bne c 95 (by omega)
    have n2 : ((c.toNat : Int) != 45) = !decide (c.toNat = 45) := u8_bne c 45 (by omega)
    refine LoopA.intro (by kernel_rfl) ?_
    intro ν fr; have nuE := fr.nu
    by_cases hb : idN c.toNat = true
    · have ih' := ih (e + 1) (dn ++ [c]) ha' h3' (by simp [hd, hb])
      cases h1 : letN c.toNat with
      | true =>
        simp (maxDischargeDepth := 16) only [argE_nil, argE_cons, ↓vmD, vmV, vmStd, Nat.reduceMul, ↓reduceIte, Nat.reduceAdd, Nat.reduceSub, Nat.reduceEqDiff, Nat.reduceLT, Nat.reduceLeDiff, reduceCtorEq, Int.reduceToNat, Int.reduceLT, Int.reduceLE, Int.reduceEq, Int.reduceNeg, Int.reduceBEq, Int.reduceBNe, String.reduceEq, forall_const, ↓vmDA, vmVA, ↓vmQA, vmR, vmRA, ↓vmSA, vmSV, tyS, nuE, areDigits_v, panSum_v, rdigits_v, rsum_v, panLuhn_v, rLuhn_v, panCheck_v, rCheck_v, panCd_v, rCd_v, isPrefix_v, rMake_v, isLet_v, lt, bs_at, hc, h1, we]
        exact LoopA.weak ih' (by simp only [subE, get_cons, Nat.reduceEqDiff, ↓reduceIte, reduceCtorEq, Nat.reduceAdd, and_self, and_true]) (SubA.refl _)
      | false =>
        simp only [idN, h1, Bool.false_or, Bool.or_eq_true, Bool.and_eq_true, decide_eq_true_eq] at hb
        by_cases h2 : c.toNat < 48
        · have h2' : c.toNat = 45 := by omega
          have x1 : decide (c.toNat = 95) = false := by simp; omega
          have x2 : decide (c.toNat = 45) = true := by simpa using h2'
          simp (maxDischargeDepth := 16) only [argE_nil, argE_cons, ↓vmD, vmV, vmStd, Nat.reduceMul, ↓reduceIte, Nat.reduceAdd, Nat.reduceSub, Nat.reduceEqDiff, Nat.reduceLT, Nat.reduceLeDiff, reduceCtorEq, Int.reduceToNat, Int.reduceLT, Int.reduceLE, Int.reduceEq, Int.reduceNeg, Int.reduceBEq, Int.reduceBNe, String.reduceEq, forall_const, ↓vmDA, vmVA, ↓vmQA, vmR, vmRA, ↓vmSA, vmSV, tyS, nuE, areDigits_v, panSum_v, rdigits_v, rsum_v, panLuhn_v, rLuhn_v, panCheck_v, rCheck_v, panCd_v, rCd_v, isPrefix_v, rMake_v, isLet_v, lt, bs_at, hc, h1, c1, h2, n1, n2, x1, x2, we]
          exact LoopA.weak ih' (by simp only [subE, get_cons, Nat.reduceEqDiff, ↓reduceIte, reduceCtorEq, Nat.reduceAdd, and_self, and_true]) (SubA.refl _)
        · by_cases h5 : 57 < c.toNat
          · have x1 : decide (c.toNat = 95) = true := by simp; omega
            simp (maxDischargeDepth := 16) only [argE_nil, argE_cons, ↓vmD, vmV, vmStd, Nat.reduceMul, ↓reduceIte, Nat.reduceAdd, Nat.reduceSub, Nat.reduceEqDiff, Nat.reduceLT, Nat.reduceLeDiff, reduceCtorEq, Int.reduceToNat, Int.reduceLT, Int.reduceLE, Int.reduceEq, Int.reduceNeg, Int.reduceBEq, Int.reduceBNe, String.reduceEq, forall_const, ↓vmDA, vmVA, ↓vmQA, vmR, vmRA, ↓vmSA, vmSV, tyS, nuE, areDigits_v, panSum_v, rdigits_v, rsum_v, panLuhn_v, rLuhn_v, panCheck_v, rCheck_v, panCd_v, rCd_v, isPrefix_v, rMake_v, isLet_v, lt, bs_at, hc, h1, c1, h2, c2, h5, n1, x1, we]
            exact LoopA.weak ih' (by simp only [subE, get_cons, Nat.reduceEqDiff, ↓reduceIte, reduceCtorEq, Nat.reduceAdd, and_self, and_true]) (SubA.refl _)
          · simp (maxDischargeDepth := 16) only [argE_nil, argE_cons, ↓vmD, vmV, vmStd, Nat.reduceMul, ↓reduceIte, Nat.reduceAdd, Nat.reduceSub, Nat.reduceEqDiff, Nat.reduceLT, Nat.reduceLeDiff, reduceCtorEq, Int.reduceToNat, Int.reduceLT, Int.reduceLE, Int.reduceEq, Int.reduceNeg, Int.reduceBEq, Int.reduceBNe, String.reduceEq, forall_const, ↓vmDA, vmVA, ↓vmQA, vmR, vmRA, ↓vmSA, vmSV, tyS, nuE, areDigits_v, panSum_v, rdigits_v, rsum_v, panLuhn_v, rLuhn_v, panCheck_v, rCheck_v, panCd_v, rCd_v, isPrefix_v, rMake_v, isLet_v, lt, bs_at, hc, h1, c1, h2, c2, h5, we]
            exact LoopA.weak ih' (by simp only [subE, get_cons, Nat.reduceEqDiff, ↓reduceIte, reduceCtorEq, Nat.reduceAdd, and_self, and_true]) (SubA.refl _)
    · have hb2 : idN c.toNat = false := by simpa using hb
      have hv : idB l = false := by unfold idB; rw [ha]; simp [hb2]
      have hh := hb2
      simp only [idN, Bool.or_eq_false_iff, Bool.and_eq_false_iff, decide_eq_false_iff_not] at hh
      have h1 := hh.1.1.1
      have x1 : decide (c.toNat = 95) = false := by simp; omega
      have x2 : decide (c.toNat = 45) = false := by simp; omega
      by_cases h2 : c.toNat < 48
      · simp (maxDischargeDepth := 16) only [argE_nil, argE_cons, ↓vmD, vmV, vmStd, Nat.reduceMul, ↓reduceIte, Nat.reduceAdd, Nat.reduceSub, Nat.reduceEqDiff, Nat.reduceLT, Nat.reduceLeDiff, reduceCtorEq, Int.reduceToNat, Int.reduceLT, Int.reduceLE, Int.reduceEq, Int.reduceNeg, Int.reduceBEq, Int.reduceBNe, String.reduceEq, forall_const, ↓vmDA, vmVA, ↓vmQA, vmR, vmRA, ↓vmSA, vmSV, tyS, nuE, areDigits_v, panSum_v, rdigits_v, rsum_v, panLuhn_v, rLuhn_v, panCheck_v, rCheck_v, panCd_v, rCd_v, isPrefix_v, rMake_v, isLet_v, lt, bs_at, hc, h1, c1, h2, n1, n2, x1, x2, hv]
      · have h5 : 57 < c.toNat := by omega
        simp (maxDischargeDepth := 16) only [argE_nil, argE_cons, ↓vmD, vmV, vmStd, Nat.reduceMul, ↓reduceIte, Nat.reduceAdd, Nat.reduceSub, Nat.reduceEqDiff, Nat.reduceLT, Nat.reduceLeDiff, reduceCtorEq, Int.reduceToNat, Int.reduceLT, Int.reduceLE, Int.reduceEq, Int.reduceNeg, Int.reduceBEq, Int.reduceBNe, String.reduceEq, forall_const, ↓vmDA, vmVA, ↓vmQA, vmR, vmRA, ↓vmSA, vmSV, tyS, nuE, areDigits_v, panSum_v, rdigits_v, rsum_v, panLuhn_v, rLuhn_v, panCheck_v, rCheck_v, panCd_v, rCd_v, isPrefix_v, rMake_v, isLet_v, lt, bs_at, hc, h1, c1, h2, c2, h5, n1, n2, x1, x2, hv]
theorem isId_v (l : List UInt8) (hl : l.length ≤ 1000000) (A_ : AH) : valA Tryd.prog 31 #[.string (bs l)] A_ = some (.bool (idB l)) := valA_eq (pureA_of (by kernel_rfl) (isId_h l hl))
theorem con_v (l : List UInt8) (A : AH) : valA Tryd.prog 51 #[.string (bs l), .string ⟨#[45]⟩] A = some (.bool (decide (0 ≤ Lib.indexByte l 45))) :=
  pureA_h (by kernel_rfl) (by kernel_rfl) fun h => by
    have := calls_same (fun w => Tryd.strings_Contains_one (bs l) 45 w) h
    exact this.mono0 (fun e h2 hh => ⟨hh.1, by rw [hh.2]; exact Grew.refl h⟩)
theorem isNm_h (l : List UInt8) (hl : l.length ≤ 1000000) : CallA Tryd.prog 30 #[.string (bs l)] [] (fun u_ _ => u_ = .bool (nmB l)) := by
  refine callA_of_denA ⟨Tryd.prog, 30, Tryd.f30, 15, [0, 2], [], [], _⟩ (args := [_]) Tryd.func30 rfl (by kernel_rfl) Tryd.ntmps30 (by simp) (by kernel_rfl) ?_
  intro ν fr; have nuE := fr.nu
  have iv := fun A => isId_v l hl A
  have cv := fun A => con_v l A
  cases hi : idB l with
  | false => simp (maxDischargeDepth := 16) only [argE_nil, argE_cons, ↓vmD, vmV, vmStd, Nat.reduceMul, ↓reduceIte, Nat.reduceAdd, Nat.reduceSub, Nat.reduceEqDiff, Nat.reduceLT, Nat.reduceLeDiff, reduceCtorEq, Int.reduceToNat, Int.reduceLT, Int.reduceLE, Int.reduceEq, Int.reduceNeg, Int.reduceBEq, Int.reduceBNe, String.reduceEq, forall_const, ↓vmDA, vmVA, ↓vmQA, vmR, vmRA, ↓vmSA, vmSV, tyS, nuE, areDigits_v, panSum_v, rdigits_v, rsum_v, panLuhn_v, rLuhn_v, panCheck_v, rCheck_v, panCd_v, rCd_v, isPrefix_v, rMake_v, isLet_v, isId_v, iv, hi, nmB, Bool.false_and]
  | true =>
    cases l with
    | nil => simp [idB] at hi
    | cons c l =>
      have hc : (c :: l)[0]? = some c := rfl
      cases h1 : letN c.toNat with
      | false => simp (maxDischargeDepth := 16) only [argE_nil, argE_cons, ↓vmD, vmV, vmStd, Nat.reduceMul, ↓reduceIte, Nat.reduceAdd, Nat.reduceSub, Nat.reduceEqDiff, Nat.reduceLT, Nat.reduceLeDiff, reduceCtorEq, Int.reduceToNat, Int.reduceLT, Int.reduceLE, Int.reduceEq, Int.reduceNeg, Int.reduceBEq, Int.reduceBNe, String.reduceEq, forall_const, ↓vmDA, vmVA, ↓vmQA, vmR, vmRA, ↓vmSA, vmSV, tyS, nuE, areDigits_v, panSum_v, rdigits_v, rsum_v, panLuhn_v, rLuhn_v, panCheck_v, rCheck_v, panCd_v, rCd_v, isPrefix_v, rMake_v, isLet_v, isId_v, iv, hi, bs_at, hc, h1, nmB, Bool.false_and, Bool.and_false]
      | true => simp (maxDischargeDepth := 16) only [argE_nil, argE_cons, ↓vmD, vmV, vmStd, Nat.reduceMul, ↓reduceIte, Nat.reduceAdd, Nat.reduceSub, Nat.reduceEqDiff, Nat.reduceLT, Nat.reduceLeDiff, reduceCtorEq, Int.reduceToNat, Int.reduceLT, Int.reduceLE, Int.reduceEq, Int.reduceNeg, Int.reduceBEq, Int.reduceBNe, String.reduceEq, forall_const, ↓vmDA, vmVA, ↓vmQA, vmR, vmRA, ↓vmSA, vmSV, tyS, nuE, areDigits_v, panSum_v, rdigits_v, rsum_v, panLuhn_v, rLuhn_v, panCheck_v, rCheck_v, panCd_v, rCd_v, isPrefix_v, rMake_v, isLet_v, isId_v, iv, hi, bs_at, hc, h1, cv, nmB, Bool.true_and]
theorem isNm_v (l : List UInt8) (hl : l.length ≤ 1000000) (A_ : AH) : valA Tryd.prog 30 #[.string (bs l)] A_ = some (.bool (nmB l)) := valA_eq (pureA_of (by kernel_rfl) (isNm_h l hl))
theorem isTm_h (n : Int) : CallA Tryd.prog 32 #[.int .i64 n] [] (fun u_ _ => u_ = .bool (decide (0 ≤ n) && decide (n ≤ 1099511627776))) := by
  refine callA_of_denA ⟨Tryd.prog, 32, Tryd.f32, 9, [0, 2], [], [], _⟩ (args := [_]) Tryd.func32 rfl (by kernel_rfl) Tryd.ntmps32 (by simp) (by kernel_rfl) ?_
  intro ν fr; have nuE := fr.nu
  simp (maxDischargeDepth := 16) only [argE_nil, argE_cons, ↓vmD, vmV, vmStd, Nat.reduceMul, ↓reduceIte, Nat.reduceAdd, Nat.reduceSub, Nat.reduceEqDiff, Nat.reduceLT, Nat.reduceLeDiff, reduceCtorEq, Int.reduceToNat, Int.reduceLT, Int.reduceLE, Int.reduceEq, Int.reduceNeg, Int.reduceBEq, Int.reduceBNe, String.reduceEq, forall_const, ↓vmDA, vmVA, ↓vmQA, vmR, vmRA, ↓vmSA, vmSV, tyS, nuE, areDigits_v, panSum_v, rdigits_v, rsum_v, panLuhn_v, rLuhn_v, panCheck_v, rCheck_v, panCd_v, rCd_v, isPrefix_v, rMake_v, isLet_v, isId_v, isNm_v]
  all_goals ((repeat' split) <;> (try simp_all) <;> (try omega))
theorem isTm_v (n : Int) (A_ : AH) : valA Tryd.prog 32 #[.int .i64 n] A_ = some (.bool (decide (0 ≤ n) && decide (n ≤ 1099511627776))) := valA_eq (pureA_of (by kernel_rfl) (isTm_h n))
end Go.Proofs.YtoonmogjjddeeaaDoor
