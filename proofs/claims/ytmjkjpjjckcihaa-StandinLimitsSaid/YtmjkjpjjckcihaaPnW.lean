/-
Card numbers: the walks of the digit tests, sums and checks.
Conditions: none.
-/
import Derived.Test.YtmjkjpjjckcihaaPnM
namespace Go.Proofs.Ytmjkjpjjckcihaa
open Go.Vm
set_option linter.unusedSimpArgs false
set_option linter.unusedVariables false
set_option maxHeartbeats 1000000
set_option maxRecDepth 20000
theorem areDigits_h (l : List UInt8) (hl : l.length ≤ 1000000000) : CallA Try.prog 43 #[.string (bs l)] [] (fun u_ _ => u_ = .bool (l.all digB)) := by
  refine callA_of_denA ⟨Try.prog, 43, Try.f43, 16, [0, 2, 4, 6, 7], [], [], _⟩ (args := [_]) Try.func43 rfl (by kernel_rfl) Try.ntmps43 (by simp) (by kernel_rfl) ?_
  intro ν fr; have nuE := fr.nu
  simp (maxDischargeDepth := 16) only [argE_nil, argE_cons, ↓vmD, vmV, vmStd, Nat.reduceMul, ↓reduceIte, Nat.reduceAdd, Nat.reduceSub, Nat.reduceEqDiff, Nat.reduceLT, Nat.reduceLeDiff, reduceCtorEq, Int.reduceToNat, Int.reduceLT, Int.reduceLE, Int.reduceEq, Int.reduceNeg, Int.reduceBEq, Int.reduceBNe, String.reduceEq, forall_const, ↓vmDA, vmVA, ↓vmQA, vmR, vmRA, ↓vmSA, vmSV, tyS, nuE]
  obtain ⟨e, k, dn, he, ha, h3, hd⟩ : ∃ (e : Nat) (k dn : List UInt8), e = 0 ∧ l = dn ++ k ∧ dn.length = e ∧ dn.all digB = true := ⟨0, l, [], rfl, rfl, rfl, rfl⟩
  rw [show Obj.stringIter (bs l) 0 = .stringIter (bs l) e by rw [he]]
  have dst_ : True := (by simp [nuE]); generalize ν 0 = n0 at dst_  ⊢
  clear he nuE fr
  induction k generalizing e dn with
  | nil =>
    obtain ⟨lt, hd2, hle, dc⟩ := at_nil ha h3
    rw [hd2] at hd
    refine LoopA.intro (by kernel_rfl) ?_
    intro ν fr; have nuE := And.intro (fr.mem (b := n0) (by simp)) (And.intro dst_ fr.nu)
    simp (maxDischargeDepth := 16) only [argE_nil, argE_cons, ↓vmD, vmV, vmStd, Nat.reduceMul, ↓reduceIte, Nat.reduceAdd, Nat.reduceSub, Nat.reduceEqDiff, Nat.reduceLT, Nat.reduceLeDiff, reduceCtorEq, Int.reduceToNat, Int.reduceLT, Int.reduceLE, Int.reduceEq, Int.reduceNeg, Int.reduceBEq, Int.reduceBNe, String.reduceEq, forall_const, ↓vmDA, vmVA, ↓vmQA, vmR, vmRA, ↓vmSA, vmSV, tyS, nuE, bs_size, dc, hd]
  | cons c k ih =>
    obtain ⟨lt, we, hc, hle, dc, ha', h3', hlen⟩ := at_cons ha h3 hl
    refine LoopA.intro (by kernel_rfl) ?_
    intro ν fr; have nuE := And.intro (fr.mem (b := n0) (by simp)) (And.intro dst_ fr.nu)
    by_cases hb : digB c = true
    · have b2 := digB_out hb
      have dl := dec_low ha h3 (by omega)
      have c1 : ((c.toNat : Int) < 48) = False := eq_false (by omega)
      have c2 : ((57 : Int) < (c.toNat : Int)) = False := eq_false (by omega)
      simp (maxDischargeDepth := 16) only [argE_nil, argE_cons, ↓vmD, vmV, vmStd, Nat.reduceMul, ↓reduceIte, Nat.reduceAdd, Nat.reduceSub, Nat.reduceEqDiff, Nat.reduceLT, Nat.reduceLeDiff, reduceCtorEq, Int.reduceToNat, Int.reduceLT, Int.reduceLE, Int.reduceEq, Int.reduceNeg, Int.reduceBEq, Int.reduceBNe, String.reduceEq, forall_const, ↓vmDA, vmVA, ↓vmQA, vmR, vmRA, ↓vmSA, vmSV, tyS, nuE, bs_size, dc, dl, c1, c2]
      exact LoopA.weak (ih (e + 1) (dn ++ [c]) ha' h3' (by simp [hd, hb])) (by simp only [subE, get_cons, Nat.reduceEqDiff, ↓reduceIte, reduceCtorEq, Nat.reduceAdd, and_self, and_true]) (SubE.sub (by simp only [SubE_nil, SubE_cons, look_cons, look_nil, nuE, ↓reduceIte, Nat.reduceEqDiff, and_self, and_true, Nat.reduceAdd]))
    · have hv : l.all digB = false := by rw [ha]; simp [hb]
      have b2 := digB_not (by simpa using hb)
      by_cases h128 : c.toNat < 128
      · have dl := dec_low ha h3 h128
        by_cases h48 : c.toNat < 48
        · have c1 : ((c.toNat : Int) < 48) = True := eq_true (by omega)
          simp (maxDischargeDepth := 16) only [argE_nil, argE_cons, ↓vmD, vmV, vmStd, Nat.reduceMul, ↓reduceIte, Nat.reduceAdd, Nat.reduceSub, Nat.reduceEqDiff, Nat.reduceLT, Nat.reduceLeDiff, reduceCtorEq, Int.reduceToNat, Int.reduceLT, Int.reduceLE, Int.reduceEq, Int.reduceNeg, Int.reduceBEq, Int.reduceBNe, String.reduceEq, forall_const, ↓vmDA, vmVA, ↓vmQA, vmR, vmRA, ↓vmSA, vmSV, tyS, nuE, bs_size, dc, dl, c1, hv]
        · have c1 : ((c.toNat : Int) < 48) = False := eq_false (by omega)
          have c2 : ((57 : Int) < (c.toNat : Int)) = True := eq_true (by omega)
          simp (maxDischargeDepth := 16) only [argE_nil, argE_cons, ↓vmD, vmV, vmStd, Nat.reduceMul, ↓reduceIte, Nat.reduceAdd, Nat.reduceSub, Nat.reduceEqDiff, Nat.reduceLT, Nat.reduceLeDiff, reduceCtorEq, Int.reduceToNat, Int.reduceLT, Int.reduceLE, Int.reduceEq, Int.reduceNeg, Int.reduceBEq, Int.reduceBNe, String.reduceEq, forall_const, ↓vmDA, vmVA, ↓vmQA, vmR, vmRA, ↓vmSA, vmSV, tyS, nuE, bs_size, dc, dl, c1, c2, hv]
      · have dh := dec_high ha h3 (by omega)
        have c1 : ((Utf8.decode (bs l) e).1 < 48) = False := eq_false (by omega)
        have c2 : ((57 : Int) < (Utf8.decode (bs l) e).1) = True := eq_true (by omega)
        simp (maxDischargeDepth := 16) only [argE_nil, argE_cons, ↓vmD, vmV, vmStd, Nat.reduceMul, ↓reduceIte, Nat.reduceAdd, Nat.reduceSub, Nat.reduceEqDiff, Nat.reduceLT, Nat.reduceLeDiff, reduceCtorEq, Int.reduceToNat, Int.reduceLT, Int.reduceLE, Int.reduceEq, Int.reduceNeg, Int.reduceBEq, Int.reduceBNe, String.reduceEq, forall_const, ↓vmDA, vmVA, ↓vmQA, vmR, vmRA, ↓vmSA, vmSV, tyS, nuE, bs_size, dc, c1, c2, hv]
theorem areDigits_v (l : List UInt8) (hl : l.length ≤ 1000000000) (A_ : AH) : valA Try.prog 43 #[.string (bs l)] A_ = some (.bool (l.all digB)) := valA_eq (pureA_of (by kernel_rfl) (areDigits_h l hl))
theorem sum_facts {l : List UInt8} {c : UInt8} {e tot : Nat} (hb : digB c = true) (hl : l.length ≤ 100000) (he : e < l.length) (ht : tot ≤ 9 * l.length) :
    IntKind.i32.wrap ((c.toNat : Int) - 48) = ((c.toNat - 48 : Nat) : Int) ∧ IntKind.i64.wrap ((c.toNat - 48 : Nat) : Int) = ((c.toNat - 48 : Nat) : Int) ∧ IntKind.i64.wrap (((c.toNat - 48 : Nat) : Int) * 2) = ((2 * (c.toNat - 48) : Nat) : Int) ∧ IntKind.i64.wrap (2 * ((c.toNat - 48 : Nat) : Int)) = ((2 * (c.toNat - 48) : Nat) : Int)
    ∧ IntKind.u8.wrap ((c.toNat : Int) - 48) = ((c.toNat - 48 : Nat) : Int) ∧ IntKind.i64.wrap ((l.length : Int) - (e : Int)) = ((l.length - e : Nat) : Int) ∧ ((l.length - e : Nat) : Int).tmod 2 = (((l.length - e) % 2 : Nat) : Int)
    ∧ (∀ x : Nat, x ≤ 18 → IntKind.i64.wrap ((tot : Int) + (x : Int)) = ((tot + x : Nat) : Int)) ∧ (∀ x : Nat, 9 < x → x ≤ 18 → IntKind.i64.wrap ((x : Int) - 9) = ((x - 9 : Nat) : Int)) := by
  have b2 := digB_out hb
  refine ⟨?_, ?_, ?_, ?_, ?_, ?_, ?_, fun x hx => ?_, fun x h1 h2 => ?_⟩
  · rw [w_i32 (by omega) (by omega)]; omega
  · rw [w_i64 (by omega) (by omega)]
  · rw [w_i64 (by omega) (by omega)]; omega
  · rw [w_i64 (by omega) (by omega)]; omega
  · rw [w_u8 (by omega) (by omega)]; omega
  · rw [w_i64 (by omega) (by omega)]; omega
  · rw [Int.tmod_eq_emod_of_nonneg (by omega)]; omega
  · rw [w_i64 (by omega) (by omega)]; omega
  · rw [w_i64 (by omega) (by omega)]; omega
theorem panSum_h (l : List UInt8) (hl : l.length ≤ 100000) (hdig : l.all digB = true) : CallA Try.prog 51 #[.string (bs l)] [] (fun u_ _ => u_ = .int .i64 (sumP 1 l : Int)) := by
  refine callA_of_denA ⟨Try.prog, 51, Try.f51, 32, [0, 2, 3, 4, 5, 6, 8, 9], [], [], _⟩ (args := [_]) Try.func51 rfl (by kernel_rfl) Try.ntmps51 (by simp) (by kernel_rfl) ?_
  intro ν fr; have nuE := fr.nu
  simp (maxDischargeDepth := 16) only [argE_nil, argE_cons, ↓vmD, vmV, vmStd, Nat.reduceMul, ↓reduceIte, Nat.reduceAdd, Nat.reduceSub, Nat.reduceEqDiff, Nat.reduceLT, Nat.reduceLeDiff, reduceCtorEq, Int.reduceToNat, Int.reduceLT, Int.reduceLE, Int.reduceEq, Int.reduceNeg, Int.reduceBEq, Int.reduceBNe, String.reduceEq, forall_const, ↓vmDA, vmVA, ↓vmQA, vmR, vmRA, ↓vmSA, vmSV, tyS, nuE, areDigits_v]
  have hmax := sumP_le 1 l hdig
  obtain ⟨e, tot, k, dn, he, ht, ha, h3, hs⟩ : ∃ (e tot : Nat) (k dn : List UInt8), e = 0 ∧ tot = 0 ∧ l = dn ++ k ∧ dn.length = e ∧ sumP 1 l = tot + sumP 1 k := ⟨0, 0, l, [], rfl, rfl, rfl, rfl, by simp⟩
  rw [show Obj.stringIter (bs l) 0 = .stringIter (bs l) e by rw [he]]
  rw [show (3, some (Value.int .i64 0)) = (3, some (Value.int .i64 (tot : Int))) by rw [ht]; rfl]
  have dst_ : True := (by simp [nuE]); generalize ν 0 = n0 at dst_  ⊢
  clear he ht nuE fr
  induction k generalizing e dn tot with
  | nil =>
    obtain ⟨lt, hd2, hle, dc⟩ := at_nil ha h3
    refine LoopA.intro (by kernel_rfl) ?_
    intro ν fr; have nuE := And.intro (fr.mem (b := n0) (by simp)) (And.intro dst_ fr.nu)
    simp (maxDischargeDepth := 16) only [argE_nil, argE_cons, ↓vmD, vmV, vmStd, Nat.reduceMul, ↓reduceIte, Nat.reduceAdd, Nat.reduceSub, Nat.reduceEqDiff, Nat.reduceLT, Nat.reduceLeDiff, reduceCtorEq, Int.reduceToNat, Int.reduceLT, Int.reduceLE, Int.reduceEq, Int.reduceNeg, Int.reduceBEq, Int.reduceBNe, String.reduceEq, forall_const, ↓vmDA, vmVA, ↓vmQA, vmR, vmRA, ↓vmSA, vmSV, tyS, nuE, areDigits_v, bs_size, dc, hs, sumP, Nat.add_zero]
  | cons c k ih =>
    obtain ⟨lt, we, hc, hle, dc, ha', h3', hlen⟩ := at_cons ha h3 (by omega)
    have hda := hdig
    rw [ha] at hda
    simp only [List.all_append, List.all_cons, Bool.and_eq_true] at hda
    have hb := hda.2.1
    have b2 := digB_out hb
    obtain ⟨f1, f2, f3, f4, f5, f6, f7, f8, f9⟩ := sum_facts (tot := tot) (e := e) hb hl hle (by omega)
    have dl := dec_low ha h3 (by omega)
    simp only [sumP, dblN] at hs
    refine LoopA.intro (by kernel_rfl) ?_
    intro ν fr; have nuE := And.intro (fr.mem (b := n0) (by simp)) (And.intro dst_ fr.nu)
    by_cases hp : (l.length - e) % 2 = 0
    · have p1 : ((((l.length - e) % 2 : Nat) : Int) == 0) = true := by rw [hp]; rfl
      rw [if_pos (by simp; omega)] at hs
      by_cases h9 : 9 < 2 * (c.toNat - 48)
      · have q1 : ((9 : Int) < ((2 * (c.toNat - 48) : Nat) : Int)) = True := eq_true (by omega)
        rw [if_pos h9] at hs
        have f9' := f9 _ h9 (by omega)
        have f8' := f8 (2 * (c.toNat - 48) - 9) (by omega)
        simp (maxDischargeDepth := 16) only [argE_nil, argE_cons, ↓vmD, vmV, vmStd, Nat.reduceMul, ↓reduceIte, Nat.reduceAdd, Nat.reduceSub, Nat.reduceEqDiff, Nat.reduceLT, Nat.reduceLeDiff, reduceCtorEq, Int.reduceToNat, Int.reduceLT, Int.reduceLE, Int.reduceEq, Int.reduceNeg, Int.reduceBEq, Int.reduceBNe, String.reduceEq, forall_const, ↓vmDA, vmVA, ↓vmQA, vmR, vmRA, ↓vmSA, vmSV, tyS, nuE, areDigits_v, bs_size, dc, dl, f1, f2, f3, f6, f7, p1, q1, f9', f8']
        exact LoopA.weak (ih (e + 1) (tot + (2 * (c.toNat - 48) - 9)) (dn ++ [c]) ha' h3' (by omega)) (by simp only [subE, get_cons, Nat.reduceEqDiff, ↓reduceIte, reduceCtorEq, Nat.reduceAdd, and_self, and_true]) (SubE.sub (by simp only [SubE_nil, SubE_cons, look_cons, look_nil, nuE, ↓reduceIte, Nat.reduceEqDiff, and_self, and_true, Nat.reduceAdd]))
      · have q1 : ((9 : Int) < ((2 * (c.toNat - 48) : Nat) : Int)) = False := eq_false (by omega)
        rw [if_neg h9] at hs
        have f8' := f8 (2 * (c.toNat - 48)) (by omega)
        simp (maxDischargeDepth := 16) only [argE_nil, argE_cons, ↓vmD, vmV, vmStd, Nat.reduceMul, ↓reduceIte, Nat.reduceAdd, Nat.reduceSub, Nat.reduceEqDiff, Nat.reduceLT, Nat.reduceLeDiff, reduceCtorEq, Int.reduceToNat, Int.reduceLT, Int.reduceLE, Int.reduceEq, Int.reduceNeg, Int.reduceBEq, Int.reduceBNe, String.reduceEq, forall_const, ↓vmDA, vmVA, ↓vmQA, vmR, vmRA, ↓vmSA, vmSV, tyS, nuE, areDigits_v, bs_size, dc, dl, f1, f2, f3, f6, f7, p1, q1, f8']
        exact LoopA.weak (ih (e + 1) (tot + 2 * (c.toNat - 48)) (dn ++ [c]) ha' h3' (by omega)) (by simp only [subE, get_cons, Nat.reduceEqDiff, ↓reduceIte, reduceCtorEq, Nat.reduceAdd, and_self, and_true]) (SubE.sub (by simp only [SubE_nil, SubE_cons, look_cons, look_nil, nuE, ↓reduceIte, Nat.reduceEqDiff, and_self, and_true, Nat.reduceAdd]))
    · have p1 : ((((l.length - e) % 2 : Nat) : Int) == 0) = false := by simp; omega
      rw [if_neg (by simp; omega)] at hs
      have f8' := f8 (c.toNat - 48) (by omega)
      simp (maxDischargeDepth := 16) only [argE_nil, argE_cons, ↓vmD, vmV, vmStd, Nat.reduceMul, ↓reduceIte, Nat.reduceAdd, Nat.reduceSub, Nat.reduceEqDiff, Nat.reduceLT, Nat.reduceLeDiff, reduceCtorEq, Int.reduceToNat, Int.reduceLT, Int.reduceLE, Int.reduceEq, Int.reduceNeg, Int.reduceBEq, Int.reduceBNe, String.reduceEq, forall_const, ↓vmDA, vmVA, ↓vmQA, vmR, vmRA, ↓vmSA, vmSV, tyS, nuE, areDigits_v, bs_size, dc, dl, f1, f2, f3, f6, f7, p1, f8']
      exact LoopA.weak (ih (e + 1) (tot + (c.toNat - 48)) (dn ++ [c]) ha' h3' (by omega)) (by simp only [subE, get_cons, Nat.reduceEqDiff, ↓reduceIte, reduceCtorEq, Nat.reduceAdd, and_self, and_true]) (SubE.sub (by simp only [SubE_nil, SubE_cons, look_cons, look_nil, nuE, ↓reduceIte, Nat.reduceEqDiff, and_self, and_true, Nat.reduceAdd]))
theorem panSum_v (l : List UInt8) (hl : l.length ≤ 100000) (hdig : l.all digB = true) (A_ : AH) : valA Try.prog 51 #[.string (bs l)] A_ = some (.int .i64 (sumP 1 l : Int)) := valA_eq (pureA_of (by kernel_rfl) (panSum_h l hl hdig))
theorem rdigits_h (l : List UInt8) (hl : l.length ≤ 1000000000) : CallA Try.prog 46 #[.string (bs l)] [] (fun u_ _ => u_ = .bool (l.all digB)) := by
  refine callA_of_denA ⟨Try.prog, 46, Try.f46, 20, [0, 2, 3], [], [], _⟩ (args := [_]) Try.func46 rfl (by kernel_rfl) Try.ntmps46 (by simp) (by kernel_rfl) ?_
  intro ν fr; have nuE := fr.nu
  simp (maxDischargeDepth := 16) only [argE_nil, argE_cons, ↓vmD, vmV, vmStd, Nat.reduceMul, ↓reduceIte, Nat.reduceAdd, Nat.reduceSub, Nat.reduceEqDiff, Nat.reduceLT, Nat.reduceLeDiff, reduceCtorEq, Int.reduceToNat, Int.reduceLT, Int.reduceLE, Int.reduceEq, Int.reduceNeg, Int.reduceBEq, Int.reduceBNe, String.reduceEq, forall_const, ↓vmDA, vmVA, ↓vmQA, vmR, vmRA, ↓vmSA, vmSV, tyS, nuE, areDigits_v, panSum_v]
  obtain ⟨e, k, dn, he, ha, h3, hd⟩ : ∃ (e : Nat) (k dn : List UInt8), e = 0 ∧ l = dn ++ k ∧ dn.length = e ∧ dn.all digB = true := ⟨0, l, [], rfl, rfl, rfl, rfl⟩
  rw [show (3, some (Value.int .i64 0)) = (3, some (Value.int .i64 (e : Int))) by rw [he]; rfl]
  clear he nuE fr
  induction k generalizing e dn with
  | nil =>
    obtain ⟨lt, hd2, hle, dc⟩ := at_nil ha h3
    rw [hd2] at hd
    refine LoopA.intro (by kernel_rfl) ?_
    intro ν fr; have nuE := fr.nu
    simp (maxDischargeDepth := 16) only [argE_nil, argE_cons, ↓vmD, vmV, vmStd, Nat.reduceMul, ↓reduceIte, Nat.reduceAdd, Nat.reduceSub, Nat.reduceEqDiff, Nat.reduceLT, Nat.reduceLeDiff, reduceCtorEq, Int.reduceToNat, Int.reduceLT, Int.reduceLE, Int.reduceEq, Int.reduceNeg, Int.reduceBEq, Int.reduceBNe, String.reduceEq, forall_const, ↓vmDA, vmVA, ↓vmQA, vmR, vmRA, ↓vmSA, vmSV, tyS, nuE, areDigits_v, panSum_v, bs_size, lt, hd]
  | cons c k ih =>
    obtain ⟨lt, we, hc, hle, dc, ha', h3', hlen⟩ := at_cons ha h3 hl
    refine LoopA.intro (by kernel_rfl) ?_
    intro ν fr; have nuE := fr.nu
    by_cases hb : digB c = true
    · have b2 := digB_out hb
      have c1 : ((c.toNat : Int) < 48) = False := eq_false (by omega)
      have c2 : ((57 : Int) < (c.toNat : Int)) = False := eq_false (by omega)
      simp (maxDischargeDepth := 16) only [argE_nil, argE_cons, ↓vmD, vmV, vmStd, Nat.reduceMul, ↓reduceIte, Nat.reduceAdd, Nat.reduceSub, Nat.reduceEqDiff, Nat.reduceLT, Nat.reduceLeDiff, reduceCtorEq, Int.reduceToNat, Int.reduceLT, Int.reduceLE, Int.reduceEq, Int.reduceNeg, Int.reduceBEq, Int.reduceBNe, String.reduceEq, forall_const, ↓vmDA, vmVA, ↓vmQA, vmR, vmRA, ↓vmSA, vmSV, tyS, nuE, areDigits_v, panSum_v, bs_size, lt, bs_at, hc, we, c1, c2]
      exact LoopA.weak (ih (e + 1) (dn ++ [c]) ha' h3' (by simp [hd, hb])) (by simp only [subE, get_cons, Nat.reduceEqDiff, ↓reduceIte, reduceCtorEq, Nat.reduceAdd, and_self, and_true]) (SubA.refl _)
    · have hv : l.all digB = false := by rw [ha]; simp [hb]
      have b2 := digB_not (by simpa using hb)
      by_cases h48 : c.toNat < 48
      · have c1 : ((c.toNat : Int) < 48) = True := eq_true (by omega)
        simp (maxDischargeDepth := 16) only [argE_nil, argE_cons, ↓vmD, vmV, vmStd, Nat.reduceMul, ↓reduceIte, Nat.reduceAdd, Nat.reduceSub, Nat.reduceEqDiff, Nat.reduceLT, Nat.reduceLeDiff, reduceCtorEq, Int.reduceToNat, Int.reduceLT, Int.reduceLE, Int.reduceEq, Int.reduceNeg, Int.reduceBEq, Int.reduceBNe, String.reduceEq, forall_const, ↓vmDA, vmVA, ↓vmQA, vmR, vmRA, ↓vmSA, vmSV, tyS, nuE, areDigits_v, panSum_v, bs_size, lt, bs_at, hc, c1, hv]
      · have c1 : ((c.toNat : Int) < 48) = False := eq_false (by omega)
        have c2 : ((57 : Int) < (c.toNat : Int)) = True := eq_true (by omega)
        simp (maxDischargeDepth := 16) only [argE_nil, argE_cons, ↓vmD, vmV, vmStd, Nat.reduceMul, ↓reduceIte, Nat.reduceAdd, Nat.reduceSub, Nat.reduceEqDiff, Nat.reduceLT, Nat.reduceLeDiff, reduceCtorEq, Int.reduceToNat, Int.reduceLT, Int.reduceLE, Int.reduceEq, Int.reduceNeg, Int.reduceBEq, Int.reduceBNe, String.reduceEq, forall_const, ↓vmDA, vmVA, ↓vmQA, vmR, vmRA, ↓vmSA, vmSV, tyS, nuE, areDigits_v, panSum_v, bs_size, lt, bs_at, hc, c1, c2, hv]
theorem rdigits_v (l : List UInt8) (hl : l.length ≤ 1000000000) (A_ : AH) : valA Try.prog 46 #[.string (bs l)] A_ = some (.bool (l.all digB)) := valA_eq (pureA_of (by kernel_rfl) (rdigits_h l hl))
theorem rsum_h (l : List UInt8) (p : Nat) (hp : p = 1 ∨ p = 2) (hl : l.length ≤ 100000) (hdig : l.all digB = true) : CallA Try.prog 52 #[.string (bs l), .int .i64 (p : Int)] [] (fun u_ _ => u_ = .int .i64 (sumP p l : Int)) := by
  refine callA_of_denA ⟨Try.prog, 52, Try.f52, 38, [0, 1, 4, 5, 6, 7], [], [], _⟩ (args := [_, _]) Try.func52 rfl (by kernel_rfl) Try.ntmps52 (by simp) (by kernel_rfl) ?_
  intro ν fr; have nuE := fr.nu
  simp (maxDischargeDepth := 16) only [argE_nil, argE_cons, ↓vmD, vmV, vmStd, Nat.reduceMul, ↓reduceIte, Nat.reduceAdd, Nat.reduceSub, Nat.reduceEqDiff, Nat.reduceLT, Nat.reduceLeDiff, reduceCtorEq, Int.reduceToNat, Int.reduceLT, Int.reduceLE, Int.reduceEq, Int.reduceNeg, Int.reduceBEq, Int.reduceBNe, String.reduceEq, forall_const, ↓vmDA, vmVA, ↓vmQA, vmR, vmRA, ↓vmSA, vmSV, tyS, nuE, areDigits_v, panSum_v, rdigits_v]
  have hmax := sumP_le p l hdig
  obtain ⟨e, tot, k, dn, he, ht, ha, h3, hs⟩ : ∃ (e tot : Nat) (k dn : List UInt8), e = 0 ∧ tot = 0 ∧ l = dn ++ k ∧ dn.length = e ∧ sumP p l = tot + sumP p k := ⟨0, 0, l, [], rfl, rfl, rfl, rfl, by simp⟩
  rw [show (6, some (Value.int .i64 0)) = (6, some (Value.int .i64 (e : Int))) by rw [he]; rfl]
  rw [show (5, some (Value.int .i64 0)) = (5, some (Value.int .i64 (tot : Int))) by rw [ht]; rfl]
  clear he ht nuE fr
  induction k generalizing e dn tot with
  | nil =>
    obtain ⟨lt, hd2, hle, dc⟩ := at_nil ha h3
    refine LoopA.intro (by kernel_rfl) ?_
    intro ν fr; have nuE := fr.nu
    simp (maxDischargeDepth := 16) only [argE_nil, argE_cons, ↓vmD, vmV, vmStd, Nat.reduceMul, ↓reduceIte, Nat.reduceAdd, Nat.reduceSub, Nat.reduceEqDiff, Nat.reduceLT, Nat.reduceLeDiff, reduceCtorEq, Int.reduceToNat, Int.reduceLT, Int.reduceLE, Int.reduceEq, Int.reduceNeg, Int.reduceBEq, Int.reduceBNe, String.reduceEq, forall_const, ↓vmDA, vmVA, ↓vmQA, vmR, vmRA, ↓vmSA, vmSV, tyS, nuE, areDigits_v, panSum_v, rdigits_v, bs_size, lt, hs, sumP, Nat.add_zero]
  | cons c k ih =>
    obtain ⟨lt, we, hc, hle, dc, ha', h3', hlen⟩ := at_cons ha h3 (by omega)
    have hda := hdig
    rw [ha] at hda
    simp only [List.all_append, List.all_cons, Bool.and_eq_true] at hda
    have hb := hda.2.1
    have b2 := digB_out hb
    obtain ⟨f1, f2, f3, f4, f5, f6, f7, f8, f9⟩ := sum_facts (tot := tot) (e := e) hb hl hle (by omega)
    simp only [sumP, dblN] at hs
    have g1 : IntKind.i64.wrap ((l.length : Int) - 1) = ((l.length - 1 : Nat) : Int) := by rw [w_i64 (by omega) (by omega)]; omega
    have g2 : IntKind.i64.wrap (((l.length - 1 : Nat) : Int) - (e : Int)) = ((k.length : Nat) : Int) := by rw [w_i64 (by omega) (by omega)]; omega
    have g3 : IntKind.i64.wrap ((k.length : Int) + (p : Int)) = ((k.length + p : Nat) : Int) := by rw [w_i64 (by omega) (by omega)]; omega
    have g4 : ((k.length + p : Nat) : Int).tmod 2 = (((k.length + p) % 2 : Nat) : Int) := by rw [Int.tmod_eq_emod_of_nonneg (by omega)]; omega
    refine LoopA.intro (by kernel_rfl) ?_
    intro ν fr; have nuE := fr.nu
    by_cases hp : (k.length + p) % 2 = 0
    · have p1 : ((((k.length + p) % 2 : Nat) : Int) == 0) = true := by rw [hp]; rfl
      rw [if_pos (by simp; omega)] at hs
      by_cases h9 : 9 < 2 * (c.toNat - 48)
      · have q1 : ((9 : Int) < ((2 * (c.toNat - 48) : Nat) : Int)) = True := eq_true (by omega)
        rw [if_pos h9] at hs
        have f9' := f9 _ h9 (by omega)
        have f8' := f8 (2 * (c.toNat - 48) - 9) (by omega)
        simp (maxDischargeDepth := 16) only [argE_nil, argE_cons, ↓vmD, vmV, vmStd, Nat.reduceMul, ↓reduceIte, Nat.reduceAdd, Nat.reduceSub, Nat.reduceEqDiff, Nat.reduceLT, Nat.reduceLeDiff, reduceCtorEq, Int.reduceToNat, Int.reduceLT, Int.reduceLE, Int.reduceEq, Int.reduceNeg, Int.reduceBEq, Int.reduceBNe, String.reduceEq, forall_const, ↓vmDA, vmVA, ↓vmQA, vmR, vmRA, ↓vmSA, vmSV, tyS, nuE, areDigits_v, panSum_v, rdigits_v, bs_size, lt, bs_at, hc, we, f5, f2, f4, g1, g2, g3, g4, p1, q1, f9', f8']
        exact LoopA.weak (ih (e + 1) (tot + (2 * (c.toNat - 48) - 9)) (dn ++ [c]) ha' h3' (by omega)) (by simp only [subE, get_cons, Nat.reduceEqDiff, ↓reduceIte, reduceCtorEq, Nat.reduceAdd, and_self, and_true]) (SubA.refl _)
      · have q1 : ((9 : Int) < ((2 * (c.toNat - 48) : Nat) : Int)) = False := eq_false (by omega)
        rw [if_neg h9] at hs
        have f8' := f8 (2 * (c.toNat - 48)) (by omega)
        simp (maxDischargeDepth := 16) only [argE_nil, argE_cons, ↓vmD, vmV, vmStd, Nat.reduceMul, ↓reduceIte, Nat.reduceAdd, Nat.reduceSub, Nat.reduceEqDiff, Nat.reduceLT, Nat.reduceLeDiff, reduceCtorEq, Int.reduceToNat, Int.reduceLT, Int.reduceLE, Int.reduceEq, Int.reduceNeg, Int.reduceBEq, Int.reduceBNe, String.reduceEq, forall_const, ↓vmDA, vmVA, ↓vmQA, vmR, vmRA, ↓vmSA, vmSV, tyS, nuE, areDigits_v, panSum_v, rdigits_v, bs_size, lt, bs_at, hc, we, f5, f2, f4, g1, g2, g3, g4, p1, q1, f8']
        exact LoopA.weak (ih (e + 1) (tot + 2 * (c.toNat - 48)) (dn ++ [c]) ha' h3' (by omega)) (by simp only [subE, get_cons, Nat.reduceEqDiff, ↓reduceIte, reduceCtorEq, Nat.reduceAdd, and_self, and_true]) (SubA.refl _)
    · have p1 : ((((k.length + p) % 2 : Nat) : Int) == 0) = false := by simp; omega
      rw [if_neg (by simp; omega)] at hs
      have f8' := f8 (c.toNat - 48) (by omega)
      simp (maxDischargeDepth := 16) only [argE_nil, argE_cons, ↓vmD, vmV, vmStd, Nat.reduceMul, ↓reduceIte, Nat.reduceAdd, Nat.reduceSub, Nat.reduceEqDiff, Nat.reduceLT, Nat.reduceLeDiff, reduceCtorEq, Int.reduceToNat, Int.reduceLT, Int.reduceLE, Int.reduceEq, Int.reduceNeg, Int.reduceBEq, Int.reduceBNe, String.reduceEq, forall_const, ↓vmDA, vmVA, ↓vmQA, vmR, vmRA, ↓vmSA, vmSV, tyS, nuE, areDigits_v, panSum_v, rdigits_v, bs_size, lt, bs_at, hc, we, f5, f2, f4, g1, g2, g3, g4, p1, f8']
      exact LoopA.weak (ih (e + 1) (tot + (c.toNat - 48)) (dn ++ [c]) ha' h3' (by omega)) (by simp only [subE, get_cons, Nat.reduceEqDiff, ↓reduceIte, reduceCtorEq, Nat.reduceAdd, and_self, and_true]) (SubA.refl _)
theorem rsum_v (l : List UInt8) (p : Nat) (hp : p = 1 ∨ p = 2) (hl : l.length ≤ 100000) (hdig : l.all digB = true) (A_ : AH) : valA Try.prog 52 #[.string (bs l), .int .i64 (p : Int)] A_ = some (.int .i64 (sumP p l : Int)) := valA_eq (pureA_of (by kernel_rfl) (rsum_h l p hp hl hdig))
theorem mod_ten (n : Nat) : (n : Int).tmod 10 = ((n % 10 : Nat) : Int) := by rw [Int.tmod_eq_emod_of_nonneg (by omega)]; omega
theorem bs_ne (l : List UInt8) : ((bs l).toList == []) = l.isEmpty := by rw [bs_list]; cases l <;> rfl
theorem mod_beq (n : Nat) : ((n : Int) == 0) = decide (n = 0) := by
  by_cases h : n = 0
  · subst h; rfl
  · simp [h]
theorem panLuhn_h (l : List UInt8) (hl : l.length ≤ 100000) : CallA Try.prog 44 #[.string (bs l)] [] (fun u_ _ => u_ = .bool (luhnB l)) := by
  refine callA_of_denA ⟨Try.prog, 44, Try.f44, 15, [0, 2], [], [], _⟩ (args := [_]) Try.func44 rfl (by kernel_rfl) Try.ntmps44 (by simp) (by kernel_rfl) ?_
  intro ν fr; have nuE := fr.nu
  have hd := fun A => areDigits_v l (by omega) A
  cases he : l.isEmpty with
  | true => simp (maxDischargeDepth := 16) only [argE_nil, argE_cons, ↓vmD, vmV, vmStd, Nat.reduceMul, ↓reduceIte, Nat.reduceAdd, Nat.reduceSub, Nat.reduceEqDiff, Nat.reduceLT, Nat.reduceLeDiff, reduceCtorEq, Int.reduceToNat, Int.reduceLT, Int.reduceLE, Int.reduceEq, Int.reduceNeg, Int.reduceBEq, Int.reduceBNe, String.reduceEq, forall_const, ↓vmDA, vmVA, ↓vmQA, vmR, vmRA, ↓vmSA, vmSV, tyS, nuE, areDigits_v, panSum_v, rdigits_v, rsum_v, bs_ne, he, luhnB]
  | false =>
    by_cases hdig : l.all digB = true
    · have hs := fun A => panSum_v l hl hdig A
      simp (maxDischargeDepth := 16) only [argE_nil, argE_cons, ↓vmD, vmV, vmStd, Nat.reduceMul, ↓reduceIte, Nat.reduceAdd, Nat.reduceSub, Nat.reduceEqDiff, Nat.reduceLT, Nat.reduceLeDiff, reduceCtorEq, Int.reduceToNat, Int.reduceLT, Int.reduceLE, Int.reduceEq, Int.reduceNeg, Int.reduceBEq, Int.reduceBNe, String.reduceEq, forall_const, ↓vmDA, vmVA, ↓vmQA, vmR, vmRA, ↓vmSA, vmSV, tyS, nuE, areDigits_v, panSum_v, rdigits_v, rsum_v, bs_ne, he, hd, hdig, hs, mod_ten, mod_beq, luhnB]
    · have hdig2 : l.all digB = false := by simpa using hdig
      simp (maxDischargeDepth := 16) only [argE_nil, argE_cons, ↓vmD, vmV, vmStd, Nat.reduceMul, ↓reduceIte, Nat.reduceAdd, Nat.reduceSub, Nat.reduceEqDiff, Nat.reduceLT, Nat.reduceLeDiff, reduceCtorEq, Int.reduceToNat, Int.reduceLT, Int.reduceLE, Int.reduceEq, Int.reduceNeg, Int.reduceBEq, Int.reduceBNe, String.reduceEq, forall_const, ↓vmDA, vmVA, ↓vmQA, vmR, vmRA, ↓vmSA, vmSV, tyS, nuE, areDigits_v, panSum_v, rdigits_v, rsum_v, bs_ne, he, hd, hdig2, luhnB]
theorem panLuhn_v (l : List UInt8) (hl : l.length ≤ 100000) (A_ : AH) : valA Try.prog 44 #[.string (bs l)] A_ = some (.bool (luhnB l)) := valA_eq (pureA_of (by kernel_rfl) (panLuhn_h l hl))
theorem rLuhn_h (l : List UInt8) (hl : l.length ≤ 100000) : CallA Try.prog 47 #[.string (bs l)] [] (fun u_ _ => u_ = .bool (luhnB l)) := by
  refine callA_of_denA ⟨Try.prog, 47, Try.f47, 15, [0, 2], [], [], _⟩ (args := [_]) Try.func47 rfl (by kernel_rfl) Try.ntmps47 (by simp) (by kernel_rfl) ?_
  intro ν fr; have nuE := fr.nu
  have hd := fun A => rdigits_v l (by omega) A
  cases he : l.isEmpty with
  | true => simp (maxDischargeDepth := 16) only [argE_nil, argE_cons, ↓vmD, vmV, vmStd, Nat.reduceMul, ↓reduceIte, Nat.reduceAdd, Nat.reduceSub, Nat.reduceEqDiff, Nat.reduceLT, Nat.reduceLeDiff, reduceCtorEq, Int.reduceToNat, Int.reduceLT, Int.reduceLE, Int.reduceEq, Int.reduceNeg, Int.reduceBEq, Int.reduceBNe, String.reduceEq, forall_const, ↓vmDA, vmVA, ↓vmQA, vmR, vmRA, ↓vmSA, vmSV, tyS, nuE, areDigits_v, panSum_v, rdigits_v, rsum_v, panLuhn_v, bs_ne, he, luhnB]
  | false =>
    by_cases hdig : l.all digB = true
    · have hs := fun A => show valA Try.prog 52 #[.string (bs l), .int .i64 1] A = _ from rsum_v l 1 (.inl rfl) hl hdig A
      simp (maxDischargeDepth := 16) only [argE_nil, argE_cons, ↓vmD, vmV, vmStd, Nat.reduceMul, ↓reduceIte, Nat.reduceAdd, Nat.reduceSub, Nat.reduceEqDiff, Nat.reduceLT, Nat.reduceLeDiff, reduceCtorEq, Int.reduceToNat, Int.reduceLT, Int.reduceLE, Int.reduceEq, Int.reduceNeg, Int.reduceBEq, Int.reduceBNe, String.reduceEq, forall_const, ↓vmDA, vmVA, ↓vmQA, vmR, vmRA, ↓vmSA, vmSV, tyS, nuE, areDigits_v, panSum_v, rdigits_v, rsum_v, panLuhn_v, bs_ne, he, hd, hdig, hs, mod_ten, mod_beq, luhnB]
    · have hdig2 : l.all digB = false := by simpa using hdig
      simp (maxDischargeDepth := 16) only [argE_nil, argE_cons, ↓vmD, vmV, vmStd, Nat.reduceMul, ↓reduceIte, Nat.reduceAdd, Nat.reduceSub, Nat.reduceEqDiff, Nat.reduceLT, Nat.reduceLeDiff, reduceCtorEq, Int.reduceToNat, Int.reduceLT, Int.reduceLE, Int.reduceEq, Int.reduceNeg, Int.reduceBEq, Int.reduceBNe, String.reduceEq, forall_const, ↓vmDA, vmVA, ↓vmQA, vmR, vmRA, ↓vmSA, vmSV, tyS, nuE, areDigits_v, panSum_v, rdigits_v, rsum_v, panLuhn_v, bs_ne, he, hd, hdig2, luhnB]
theorem rLuhn_v (l : List UInt8) (hl : l.length ≤ 100000) (A_ : AH) : valA Try.prog 47 #[.string (bs l)] A_ = some (.bool (luhnB l)) := valA_eq (pureA_of (by kernel_rfl) (rLuhn_h l hl))
theorem panCheck_h (l : List UInt8) (hl : l.length ≤ 100000) : CallA Try.prog 31 #[.string (bs l)] [] (fun u_ _ => u_ = .int .i64 (chk l)) := by
  refine callA_of_denA ⟨Try.prog, 31, Try.f31, 19, [0, 2], [], [], _⟩ (args := [_]) Try.func31 rfl (by kernel_rfl) Try.ntmps31 (by simp) (by kernel_rfl) ?_
  intro ν fr; have nuE := fr.nu
  have hd := fun A => areDigits_v l (by omega) A
  have hu := fun A => panLuhn_v l hl A
  simp (maxDischargeDepth := 16) only [argE_nil, argE_cons, ↓vmD, vmV, vmStd, Nat.reduceMul, ↓reduceIte, Nat.reduceAdd, Nat.reduceSub, Nat.reduceEqDiff, Nat.reduceLT, Nat.reduceLeDiff, reduceCtorEq, Int.reduceToNat, Int.reduceLT, Int.reduceLE, Int.reduceEq, Int.reduceNeg, Int.reduceBEq, Int.reduceBNe, String.reduceEq, forall_const, ↓vmDA, vmVA, ↓vmQA, vmR, vmRA, ↓vmSA, vmSV, tyS, nuE, areDigits_v, panSum_v, rdigits_v, rsum_v, panLuhn_v, rLuhn_v, bs_size, hd, hu, chk]
  all_goals ((repeat' split) <;> (try simp_all) <;> (try omega))
theorem panCheck_v (l : List UInt8) (hl : l.length ≤ 100000) (A_ : AH) : valA Try.prog 31 #[.string (bs l)] A_ = some (.int .i64 (chk l)) := valA_eq (pureA_of (by kernel_rfl) (panCheck_h l hl))
theorem rCheck_h (l : List UInt8) (hl : l.length ≤ 100000) : CallA Try.prog 35 #[.string (bs l)] [] (fun u_ _ => u_ = .int .i64 (chk l)) := by
  refine callA_of_denA ⟨Try.prog, 35, Try.f35, 19, [0, 2], [], [], _⟩ (args := [_]) Try.func35 rfl (by kernel_rfl) Try.ntmps35 (by simp) (by kernel_rfl) ?_
  intro ν fr; have nuE := fr.nu
  have hd := fun A => rdigits_v l (by omega) A
  have hu := fun A => rLuhn_v l hl A
  simp (maxDischargeDepth := 16) only [argE_nil, argE_cons, ↓vmD, vmV, vmStd, Nat.reduceMul, ↓reduceIte, Nat.reduceAdd, Nat.reduceSub, Nat.reduceEqDiff, Nat.reduceLT, Nat.reduceLeDiff, reduceCtorEq, Int.reduceToNat, Int.reduceLT, Int.reduceLE, Int.reduceEq, Int.reduceNeg, Int.reduceBEq, Int.reduceBNe, String.reduceEq, forall_const, ↓vmDA, vmVA, ↓vmQA, vmR, vmRA, ↓vmSA, vmSV, tyS, nuE, areDigits_v, panSum_v, rdigits_v, rsum_v, panLuhn_v, rLuhn_v, panCheck_v, bs_size, hd, hu, chk]
  all_goals ((repeat' split) <;> (try simp_all) <;> (try omega))
theorem rCheck_v (l : List UInt8) (hl : l.length ≤ 100000) (A_ : AH) : valA Try.prog 35 #[.string (bs l)] A_ = some (.int .i64 (chk l)) := valA_eq (pureA_of (by kernel_rfl) (rCheck_h l hl))
theorem cd_facts (l : List UInt8) : IntKind.i64.wrap (10 - ((sumP 2 l % 10 : Nat) : Int)) = ((10 - sumP 2 l % 10 : Nat) : Int) ∧ IntKind.i64.wrap (48 + (((10 - sumP 2 l % 10) % 10 : Nat) : Int)) = (cdN l : Int) ∧ IntKind.u8.wrap (cdN l : Int) = (cdN l : Int) := by
  refine ⟨?_, ?_, ?_⟩
  · rw [w_i64 (by omega) (by omega)]; omega
  · unfold cdN; rw [w_i64 (by omega) (by omega)]; omega
  · unfold cdN; rw [w_u8 (by omega) (by omega)]
theorem bs48 : (ByteArray.mk #[48]) = bs [48] := rfl
end Go.Proofs.Ytmjkjpjjckcihaa
