/-
Card numbers: the walks of making, finding, masking and comparing.
Conditions: none.
-/
import Derived.Test.YtoonmogjjddeeaaDoorPnW
import Derived.Test.YtoonmogjjddeeaaDoorIto
import Derived.Test.YtoonmogjjddeeaaDoorVmAB

namespace Go.Proofs.YtoonmogjjddeeaaDoor
open Go.Vm
set_option linter.unusedSimpArgs false
set_option linter.unusedVariables false
set_option maxHeartbeats 1000000
set_option maxRecDepth 20000
theorem bs_nil : (ByteArray.mk #[]) = bs [] := rfl
theorem enc_ascii (n : Nat) (h : n < 128) : Utf8.encode (n : Int) = bs [UInt8.ofNat n] := by
  unfold Utf8.encode
  have hv : Utf8.valid (n : Int) = true := by simp [Utf8.valid]; omega
  simp only [hv, if_true, Int.toNat_natCast]
  rw [if_pos (by omega)]
  rfl
theorem dig_sl : ∀ (d : Nat), d < 10 → (ByteArray.mk #[48, 49, 50, 51, 52, 53, 54, 55, 56, 57]).extract d (d + 1) = bs [UInt8.ofNat (48 + d)] := by decide
theorem repb_v (b : UInt8) (s : ByteArray) (hs : s = bs [b]) (c : Nat) (hc : c ≤ 1000) (A : AH) : valA Tryd.prog 47 #[.string s, .int .i64 (c : Int)] A = some (.string (bs (List.replicate c b))) :=
  pureA_h (by kernel_rfl) (by kernel_rfl) fun h => by
    subst hs
    have := calls_below (fun w => Tryd.strings_Repeat (bs [b]) c w (by omega) (by simp [bs_size]; omega)) h
    have e : (bs [b]).data.toList = [b] := rfl
    have e2 := Lib.repeatL_replicate b 1 c
    rw [Nat.mul_one] at e2
    simp only [e] at this
    rw [show ([b] : List UInt8) = List.replicate 1 b from rfl, e2] at this
    exact this
def ipB (l : List UInt8) : Bool := !l.isEmpty && (decide (l.length ≤ 10) && l.all digB)
theorem isPrefix_h (l : List UInt8) (hl : l.length ≤ 1000000000) : CallA Tryd.prog 45 #[.string (bs l)] [] (fun u_ _ => u_ = .bool (ipB l)) := by
  refine callA_of_denA ⟨Tryd.prog, 45, Tryd.f45, 14, [0, 2], [], [], _⟩ (args := [_]) Tryd.func45 rfl (by kernel_rfl) Tryd.ntmps45 (by simp) (by kernel_rfl) ?_
  intro ν fr; have nuE := fr.nu
  have hd := fun A => areDigits_v l hl A
  cases he : l.isEmpty with
  | true => simp (maxDischargeDepth := 16) only [argE_nil, argE_cons, ↓vmD, vmV, vmStd, Nat.reduceMul, ↓reduceIte, Nat.reduceAdd, Nat.reduceSub, Nat.reduceEqDiff, Nat.reduceLT, Nat.reduceLeDiff, reduceCtorEq, Int.reduceToNat, Int.reduceLT, Int.reduceLE, Int.reduceEq, Int.reduceNeg, Int.reduceBEq, Int.reduceBNe, String.reduceEq, forall_const, ↓vmDA, vmVA, ↓vmQA, vmR, vmRA, ↓vmSA, vmSV, tyS, nuE, areDigits_v, panSum_v, rdigits_v, rsum_v, panLuhn_v, rLuhn_v, panCheck_v, rCheck_v, panCd_v, rCd_v, bs_ne, he, ipB]
  | false =>
    by_cases h10 : l.length ≤ 10
    · have q : ((l.length : Int) ≤ 10) = True := eq_true (by omega)
      simp (maxDischargeDepth := 16) only [argE_nil, argE_cons, ↓vmD, vmV, vmStd, Nat.reduceMul, ↓reduceIte, Nat.reduceAdd, Nat.reduceSub, Nat.reduceEqDiff, Nat.reduceLT, Nat.reduceLeDiff, reduceCtorEq, Int.reduceToNat, Int.reduceLT, Int.reduceLE, Int.reduceEq, Int.reduceNeg, Int.reduceBEq, Int.reduceBNe, String.reduceEq, forall_const, ↓vmDA, vmVA, ↓vmQA, vmR, vmRA, ↓vmSA, vmSV, tyS, nuE, areDigits_v, panSum_v, rdigits_v, rsum_v, panLuhn_v, rLuhn_v, panCheck_v, rCheck_v, panCd_v, rCd_v, bs_ne, he, bs_size, q, hd, ipB, h10]
    · have q : ((l.length : Int) ≤ 10) = False := eq_false (by omega)
      simp (maxDischargeDepth := 16) only [argE_nil, argE_cons, ↓vmD, vmV, vmStd, Nat.reduceMul, ↓reduceIte, Nat.reduceAdd, Nat.reduceSub, Nat.reduceEqDiff, Nat.reduceLT, Nat.reduceLeDiff, reduceCtorEq, Int.reduceToNat, Int.reduceLT, Int.reduceLE, Int.reduceEq, Int.reduceNeg, Int.reduceBEq, Int.reduceBNe, String.reduceEq, forall_const, ↓vmDA, vmVA, ↓vmQA, vmR, vmRA, ↓vmSA, vmSV, tyS, nuE, areDigits_v, panSum_v, rdigits_v, rsum_v, panLuhn_v, rLuhn_v, panCheck_v, rCheck_v, panCd_v, rCd_v, bs_ne, he, bs_size, q, hd, ipB, h10]
theorem isPrefix_v (l : List UInt8) (hl : l.length ≤ 1000000000) (A_ : AH) : valA Tryd.prog 45 #[.string (bs l)] A_ = some (.bool (ipB l)) := valA_eq (pureA_of (by kernel_rfl) (isPrefix_h l hl))
theorem ip_iff (l : List UInt8) : ipB l = (decide (1 ≤ l.length) && (decide (l.length ≤ 10) && l.all digB)) := by
  unfold ipB
  cases l with
  | nil => rfl
  | cons c l => simp
theorem cdV_ok {l : List UInt8} (h0 : l.length ≠ 0) (h1 : l.length ≤ 18) (h2 : l.all digB = true) : cdV l = .tuple #[.int .u8 (cdN l : Int), .int .i64 0] := by
  unfold cdV
  rw [if_neg h0, if_neg (by omega), if_neg (by rw [h2]; simp)]
theorem cdN_le (l : List UInt8) : 48 ≤ cdN l ∧ cdN l ≤ 57 := by unfold cdN; omega
theorem panMake_h (A : AH) (hT : TabA A) (p : List UInt8) (hp : p.length ≤ 10000) (n len : Int) (hn0 : -9223372036854775808 ≤ n) (hn1 : n ≤ 9223372036854775807) : CallA Tryd.prog 26 #[.string (bs p), .int .i64 n, .int .i64 len] A (fun u_ A_ => u_ = mkV p n len ∧ SubA A A_) := by
  refine callA_of_denA ⟨Tryd.prog, 26, Tryd.f26, 58, [0, 1, 2, 6, 7, 8, 9, 10, 11, 12], [], [], _⟩ (args := [_, _, _]) Tryd.func26 rfl (by kernel_rfl) Tryd.ntmps26 (by simp) (by kernel_rfl) ?_
  intro ν fr; have nuE := fr.nu
  have ipv := fun A => isPrefix_v p (by omega) A
  have ipi := ip_iff p
  by_cases hlen : 12 ≤ len ∧ len ≤ 19
  · obtain ⟨b, rfl⟩ := Int.eq_ofNat_of_zero_le (show 0 ≤ len by omega)
    have a1 : ((b : Int) < 12) = False := eq_false (by omega)
    have a2 : ((19 : Int) < (b : Int)) = False := eq_false (by omega)
    by_cases hip : ipB p = true
    · have hip2 := hip
      rw [ipi] at hip2
      simp only [Bool.and_eq_true, decide_eq_true_eq] at hip2
      by_cases h0 : 0 ≤ n
      · obtain ⟨a, rfl⟩ := Int.eq_ofNat_of_zero_le h0
        have a3 : ((a : Int) < 0) = False := eq_false (by omega)
        have it := itoa_w A hT a (by omega) (by omega) A (SubA.refl _)
        have e1 : Lib.itoa (a : Int) = Lib.decDigits a := by unfold Lib.itoa; rw [if_neg (by omega)]; simp
        rw [e1] at it
        have hdl : (Lib.decDigits a).length ≤ 19 := dec_len 19 a (by omega) (by omega)
        have w1 : IntKind.i64.wrap ((b : Int) - 1) = ((b - 1 : Nat) : Int) := by rw [w_i64 (by omega) (by omega)]; omega
        have w2 : IntKind.i64.wrap (((b - 1 : Nat) : Int) - (p.length : Int)) = ((b - 1 - p.length : Nat) : Int) := by rw [w_i64 (by omega) (by omega)]; omega
        have w3 : IntKind.i64.wrap (((b - 1 - p.length : Nat) : Int) - ((Lib.decDigits a).length : Int)) = ((b - 1 - p.length : Nat) : Int) - ((Lib.decDigits a).length : Int) := w_i64 (by omega) (by omega)
        by_cases hr : a < 10 ^ (b - 1 - p.length)
        · have hw := dec_len (b - 1 - p.length) a (by omega) hr
          have w4 : ((b - 1 - p.length : Nat) : Int) - ((Lib.decDigits a).length : Int) = ((b - 1 - p.length - (Lib.decDigits a).length : Nat) : Int) := by omega
          rw [w4] at w3
          have w34 : IntKind.i64.wrap (((b - 1 - p.length : Nat) : Int) - ((Lib.decDigits a).length : Int)) = ((b - 1 - p.length - (Lib.decDigits a).length : Nat) : Int) := by rw [w4]; exact w3
          have z : (((b - 1 - p.length - (Lib.decDigits a).length : Nat) : Int) < 0) = False := eq_false (by omega)
          have rp := fun A => repb_v 48 ⟨#[48]⟩ rfl (b - 1 - p.length - (Lib.decDigits a).length) (by omega) A
          have pd : p ++ List.replicate (b - 1 - p.length - (Lib.decDigits a).length) 48 ++ Lib.decDigits a = p ++ digs (b - 1 - p.length) a := by rw [List.append_assoc, pad_digs _ _ (by omega) hr]
          have hd : (p ++ digs (b - 1 - p.length) a).all digB = true := by simp only [List.all_append, hip2.2.2, digs_all, Bool.and_self]
          have hl : (p ++ digs (b - 1 - p.length) a).length = b - 1 := by rw [List.length_append, digs_len]; omega
          have cd := fun A => panCd_v (p ++ digs (b - 1 - p.length) a) (by omega) A
          rw [cdV_ok (by omega) (by omega) hd] at cd
          have cl := cdN_le (p ++ digs (b - 1 - p.length) a)
          have en := enc_ascii (cdN (p ++ digs (b - 1 - p.length) a)) (by omega)
          have w5 : IntKind.i32.wrap (cdN (p ++ digs (b - 1 - p.length) a) : Int) = (cdN (p ++ digs (b - 1 - p.length) a) : Int) := w_i32 (by omega) (by omega)
          have s1 : p.length + (b - 1 - p.length - (Lib.decDigits a).length) ≤ 9223372036854775807 := by omega
          have s2 : p.length + (b - 1 - p.length - (Lib.decDigits a).length) + (Lib.decDigits a).length ≤ 9223372036854775807 := by omega
          have s3 : p.length + (b - 1 - p.length) + 1 ≤ 9223372036854775807 := by omega
          have hv : mkV p (a : Int) (b : Int) = .tuple #[.string (bs (mkL p (b - 1 - p.length) a)), .int .i64 0] := by
            unfold mkV mkO
            simp [hip2, hr]
            omega
          simp (maxDischargeDepth := 16) only [argE_nil, argE_cons, ↓vmD, vmV, vmStd, Nat.reduceMul, ↓reduceIte, Nat.reduceAdd, Nat.reduceSub, Nat.reduceEqDiff, Nat.reduceLT, Nat.reduceLeDiff, reduceCtorEq, Int.reduceToNat, Int.reduceLT, Int.reduceLE, Int.reduceEq, Int.reduceNeg, Int.reduceBEq, Int.reduceBNe, String.reduceEq, forall_const, ↓vmDA, vmVA, ↓vmQA, vmR, vmRA, ↓vmSA, vmSV, tyS, nuE, SubA.skip, SubA.refl, fr.2, areDigits_v, panSum_v, rdigits_v, rsum_v, panLuhn_v, rLuhn_v, panCheck_v, rCheck_v, panCd_v, rCd_v, isPrefix_v, ipv, hip, a1, a2, a3, it, w1, w2, w34, z, rp, pd, cd, en, w5, bs_app, bs_size, List.length_append, List.length_replicate, digs_len, List.length_singleton, s1, s2, s3, hv, mkL]
        · have hw : b - 1 - p.length < (Lib.decDigits a).length := by
            have := dec_lt a
            rcases Nat.lt_or_ge (b - 1 - p.length) (Lib.decDigits a).length with h | h
            · exact h
            · exact absurd (Nat.lt_of_lt_of_le this (Nat.pow_le_pow_right (by omega) h)) hr
          have z : (((b - 1 - p.length : Nat) : Int) - ((Lib.decDigits a).length : Int) < 0) = True := eq_true (by omega)
          have hv : mkV p (a : Int) (b : Int) = .tuple #[.string (bs []), .int .i64 4] := by
            unfold mkV mkO
            rw [if_neg]
            simp [hip2, hr]
          simp (maxDischargeDepth := 16) only [argE_nil, argE_cons, ↓vmD, vmV, vmStd, Nat.reduceMul, ↓reduceIte, Nat.reduceAdd, Nat.reduceSub, Nat.reduceEqDiff, Nat.reduceLT, Nat.reduceLeDiff, reduceCtorEq, Int.reduceToNat, Int.reduceLT, Int.reduceLE, Int.reduceEq, Int.reduceNeg, Int.reduceBEq, Int.reduceBNe, String.reduceEq, forall_const, ↓vmDA, vmVA, ↓vmQA, vmR, vmRA, ↓vmSA, vmSV, tyS, nuE, SubA.skip, SubA.refl, fr.2, areDigits_v, panSum_v, rdigits_v, rsum_v, panLuhn_v, rLuhn_v, panCheck_v, rCheck_v, panCd_v, rCd_v, isPrefix_v, ipv, hip, a1, a2, a3, it, w1, w2, w3, z, bs_size, hv, bs_nil]
      · have a3 : (n < 0) = True := eq_true (by omega)
        have hv : mkV p n (b : Int) = .tuple #[.string (bs []), .int .i64 4] := by
          unfold mkV mkO
          rw [if_neg]
          simp [h0]
        simp (maxDischargeDepth := 16) only [argE_nil, argE_cons, ↓vmD, vmV, vmStd, Nat.reduceMul, ↓reduceIte, Nat.reduceAdd, Nat.reduceSub, Nat.reduceEqDiff, Nat.reduceLT, Nat.reduceLeDiff, reduceCtorEq, Int.reduceToNat, Int.reduceLT, Int.reduceLE, Int.reduceEq, Int.reduceNeg, Int.reduceBEq, Int.reduceBNe, String.reduceEq, forall_const, ↓vmDA, vmVA, ↓vmQA, vmR, vmRA, ↓vmSA, vmSV, tyS, nuE, SubA.skip, SubA.refl, fr.2, areDigits_v, panSum_v, rdigits_v, rsum_v, panLuhn_v, rLuhn_v, panCheck_v, rCheck_v, panCd_v, rCd_v, isPrefix_v, ipv, hip, a1, a2, a3, hv, bs_nil]
    · have hip2 : ipB p = false := by simpa using hip
      have hv : mkV p n (b : Int) = .tuple #[.string (bs []), .int .i64 4] := by
        unfold mkV mkO
        rw [if_neg]
        rw [ipi] at hip
        intro h
        simp only [Bool.and_eq_true, decide_eq_true_eq] at h hip
        exact hip ⟨h.2.2.1, h.2.2.2.1, h.2.2.2.2.1⟩
      simp (maxDischargeDepth := 16) only [argE_nil, argE_cons, ↓vmD, vmV, vmStd, Nat.reduceMul, ↓reduceIte, Nat.reduceAdd, Nat.reduceSub, Nat.reduceEqDiff, Nat.reduceLT, Nat.reduceLeDiff, reduceCtorEq, Int.reduceToNat, Int.reduceLT, Int.reduceLE, Int.reduceEq, Int.reduceNeg, Int.reduceBEq, Int.reduceBNe, String.reduceEq, forall_const, ↓vmDA, vmVA, ↓vmQA, vmR, vmRA, ↓vmSA, vmSV, tyS, nuE, SubA.skip, SubA.refl, fr.2, areDigits_v, panSum_v, rdigits_v, rsum_v, panLuhn_v, rLuhn_v, panCheck_v, rCheck_v, panCd_v, rCd_v, isPrefix_v, ipv, hip2, a1, a2, hv, bs_nil]
  · have hv : mkV p n len = .tuple #[.string (bs []), .int .i64 4] := by
      unfold mkV mkO
      rw [if_neg]
      simp
      omega
    by_cases h12 : len < 12
    · simp (maxDischargeDepth := 16) only [argE_nil, argE_cons, ↓vmD, vmV, vmStd, Nat.reduceMul, ↓reduceIte, Nat.reduceAdd, Nat.reduceSub, Nat.reduceEqDiff, Nat.reduceLT, Nat.reduceLeDiff, reduceCtorEq, Int.reduceToNat, Int.reduceLT, Int.reduceLE, Int.reduceEq, Int.reduceNeg, Int.reduceBEq, Int.reduceBNe, String.reduceEq, forall_const, ↓vmDA, vmVA, ↓vmQA, vmR, vmRA, ↓vmSA, vmSV, tyS, nuE, SubA.skip, SubA.refl, fr.2, areDigits_v, panSum_v, rdigits_v, rsum_v, panLuhn_v, rLuhn_v, panCheck_v, rCheck_v, panCd_v, rCd_v, isPrefix_v, h12, hv, bs_nil]
    · have h19 : 19 < len := by omega
      simp (maxDischargeDepth := 16) only [argE_nil, argE_cons, ↓vmD, vmV, vmStd, Nat.reduceMul, ↓reduceIte, Nat.reduceAdd, Nat.reduceSub, Nat.reduceEqDiff, Nat.reduceLT, Nat.reduceLeDiff, reduceCtorEq, Int.reduceToNat, Int.reduceLT, Int.reduceLE, Int.reduceEq, Int.reduceNeg, Int.reduceBEq, Int.reduceBNe, String.reduceEq, forall_const, ↓vmDA, vmVA, ↓vmQA, vmR, vmRA, ↓vmSA, vmSV, tyS, nuE, SubA.skip, SubA.refl, fr.2, areDigits_v, panSum_v, rdigits_v, rsum_v, panLuhn_v, rLuhn_v, panCheck_v, rCheck_v, panCd_v, rCd_v, isPrefix_v, h12, h19, hv, bs_nil]
theorem panMake_w (A : AH) (hT : TabA A) (p : List UInt8) (hp : p.length ≤ 10000) (n len : Int) (hn0 : -9223372036854775808 ≤ n) (hn1 : n ≤ 9223372036854775807) (B_ : AH) (hB_ : SubA A B_) : valA Tryd.prog 26 #[.string (bs p), .int .i64 n, .int .i64 len] B_ = some (mkV p n len) := valA_eq (pureA_at (by kernel_rfl) (panMake_h A hT p hp n len hn0 hn1) hB_)
theorem panMake_v (A : AH) (hT : TabA A) (p : List UInt8) (hp : p.length ≤ 10000) (n len : Int) (hn0 : -9223372036854775808 ≤ n) (hn1 : n ≤ 9223372036854775807) : valA Tryd.prog 26 #[.string (bs p), .int .i64 n, .int .i64 len] A = some (mkV p n len) := valA_eq (pureA_at (by kernel_rfl) (panMake_h A hT p hp n len hn0 hn1) (SubA.refl _))
end Go.Proofs.YtoonmogjjddeeaaDoor
