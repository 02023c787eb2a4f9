/-
Card numbers: the walks of the reference's making, of finding, masking and comparing.
Conditions: none.
-/
import Derived.Test.YtoonmogjjddeeaaDoorPnX
namespace Go.Proofs.YtoonmogjjddeeaaDoor
open Go.Vm
set_option linter.unusedSimpArgs false
set_option linter.unusedVariables false
set_option maxHeartbeats 1000000
set_option maxRecDepth 20000
theorem sc_byte2 (n : Int) : sliceCells Tryd.prog 37 1 [(0, .int .u8 n)] = some (5, #[.int .u8 n]) := by kernel_rfl
theorem rd_b1 {A : AH} {g c : Nat} {ty : TypeId} {fr : Nat × Nat} {n : Nat} (hn : n < 256) (hg : Vm.look A g = some (.cells #[.int .u8 (n : Int)] ty fr)) : readA Tryd.prog (convert 37 9 (.slice (some ⟨g, 0, none⟩) 1 c)) A = some (.string (bs [UInt8.ofNat n])) :=
  rd_byte1 (x := UInt8.ofNat n) Tryd.underlying37 Tryd.underlying5 Tryd.underlying9 (by rw [hg]; congr; simp; omega)
theorem rMake_h (p : List UInt8) (hp : p.length ≤ 10000) (n len : Int) (hn1 : n ≤ 9223372036854775807) : CallA Tryd.prog 8 #[.string (bs p), .int .i64 n, .int .i64 len] [] (fun u_ _ => u_ = mkV p n len) := by
  refine callA_of_denA ⟨Tryd.prog, 8, Tryd.f8, 70, [0, 1, 2, 6, 7, 8, 9], [], [], _⟩ (args := [_, _, _]) Tryd.func8 rfl (by kernel_rfl) Tryd.ntmps8 (by simp) (by kernel_rfl) ?_
  intro ν fr; have nuE := fr.nu
  have dv := fun A => rdigits_v p (by omega) A
  by_cases hok : (12 ≤ len ∧ len ≤ 19) ∧ (1 ≤ p.length ∧ p.length ≤ 10) ∧ p.all digB = true ∧ 0 ≤ n
  · obtain ⟨⟨h1, h2⟩, ⟨h3, h4⟩, h5, h6⟩ := hok
    obtain ⟨b, rfl⟩ := Int.eq_ofNat_of_zero_le (show 0 ≤ len by omega)
    obtain ⟨a, rfl⟩ := Int.eq_ofNat_of_zero_le h6
    have a1 : ((b : Int) < 12) = False := eq_false (by omega)
    have a2 : ((19 : Int) < (b : Int)) = False := eq_false (by omega)
    have a3 : ((a : Int) < 0) = False := eq_false (by omega)
    have a4 : ((p.length : Int) < 1) = False := eq_false (by omega)
    have a5 : ((10 : Int) < (p.length : Int)) = False := eq_false (by omega)
    have w1 : IntKind.i64.wrap ((b : Int) - 1) = ((b - 1 : Nat) : Int) := by rw [w_i64 (by omega) (by omega)]; omega
    have w2 : IntKind.i64.wrap (((b - 1 : Nat) : Int) - (p.length : Int)) = ((b - 1 - p.length : Nat) : Int) := by rw [w_i64 (by omega) (by omega)]; omega
    simp (maxDischargeDepth := 16) only [argE_nil, argE_cons, ↓vmD, vmV, vmStd, Nat.reduceMul, ↓reduceIte, Nat.reduceAdd, Nat.reduceSub, Nat.reduceEqDiff, Nat.reduceLT, Nat.reduceLeDiff, reduceCtorEq, Int.reduceToNat, Int.reduceLT, Int.reduceLE, Int.reduceEq, Int.reduceNeg, Int.reduceBEq, Int.reduceBNe, String.reduceEq, forall_const, ↓vmDA, vmVA, ↓vmQA, vmR, vmRA, ↓vmSA, vmSV, tyS, nuE, areDigits_v, panSum_v, rdigits_v, rsum_v, panLuhn_v, rLuhn_v, panCheck_v, rCheck_v, panCd_v, rCd_v, isPrefix_v, bs_size, a1, a2, a3, a4, a5, dv, h5]
    obtain ⟨m, k, acc, hm, ha, hd, hk, hq⟩ : ∃ (m k : Nat) (acc : List UInt8), m = a ∧ acc = [] ∧ digs (b - 1 - p.length) a = digs k m ++ acc ∧ acc.length + k = b - 1 - p.length ∧ m = a / 10 ^ acc.length := ⟨a, b - 1 - p.length, [], rfl, rfl, by simp, by simp, by simp⟩
    have hma : m ≤ a := by omega
    rw [show (8, some (Value.string ⟨#[]⟩)) = (8, some (Value.string (bs acc))) by rw [ha]; rfl]
    rw [show (1, some (Value.int .i64 (a : Int))) = (1, some (Value.int .i64 (m : Int))) by rw [hm]]
    clear ha hm nuE fr
    induction k generalizing m acc with
    | zero =>
      have hlt : ((acc.length : Int) < ((b - 1 - p.length : Nat) : Int)) = False := eq_false (by omega)
      have hda : digs (b - 1 - p.length) a = acc := by rw [hd]; rfl
      refine LoopA.intro (by kernel_rfl) ?_
      intro ν fr; have nuE := fr.nu
      by_cases h0 : 0 < m
      · have z : ((0 : Int) < (m : Int)) = True := eq_true (by omega)
        have hv : mkV p (a : Int) (b : Int) = .tuple #[.string (bs []), .int .i64 4] := by
          unfold mkV mkO
          rw [if_neg]
          intro h
          simp only [Bool.and_eq_true, decide_eq_true_eq] at h
          have h7 := h.2.2.2.2.2.2
          have : a / 10 ^ acc.length = 0 := Nat.div_eq_of_lt (by rw [show acc.length = b - 1 - p.length by omega]; simpa using h7)
          omega
        simp (maxDischargeDepth := 16) only [argE_nil, argE_cons, ↓vmD, vmV, vmStd, Nat.reduceMul, ↓reduceIte, Nat.reduceAdd, Nat.reduceSub, Nat.reduceEqDiff, Nat.reduceLT, Nat.reduceLeDiff, reduceCtorEq, Int.reduceToNat, Int.reduceLT, Int.reduceLE, Int.reduceEq, Int.reduceNeg, Int.reduceBEq, Int.reduceBNe, String.reduceEq, forall_const, ↓vmDA, vmVA, ↓vmQA, vmR, vmRA, ↓vmSA, vmSV, tyS, nuE, areDigits_v, panSum_v, rdigits_v, rsum_v, panLuhn_v, rLuhn_v, panCheck_v, rCheck_v, panCd_v, rCd_v, isPrefix_v, bs_size, w1, w2, hlt, z, hv, bs_nil]
      · have z : ((0 : Int) < (m : Int)) = False := eq_false (by omega)
        have hr : a < 10 ^ (b - 1 - p.length) := by
          have h0 : a / 10 ^ acc.length = 0 := by omega
          rw [show acc.length = b - 1 - p.length by omega] at h0
          rcases Nat.lt_or_ge a (10 ^ (b - 1 - p.length)) with h | h
          · exact h
          · have := Nat.div_pos h (Nat.pow_pos (by omega)); omega
        have hv : mkV p (a : Int) (b : Int) = .tuple #[.string (bs (mkL p (b - 1 - p.length) a)), .int .i64 0] := by
          unfold mkV mkO
          simp [h1, h2, h3, h4, h5, hr]
        have hdd : (p ++ acc).all digB = true := by rw [← hda]; simp only [List.all_append, h5, digs_all, Bool.and_self]
        have hl : (p ++ acc).length = b - 1 := by rw [List.length_append]; omega
        have cd := fun A => rCd_v (p ++ acc) (by omega) A
        rw [cdV_ok (by omega) (by omega) hdd] at cd
        have cl := cdN_le (p ++ acc)
        have r1 := fun (A : AH) (g c : Nat) => rd_b1 (A := A) (g := g) (c := c) (ty := 5) (fr := (0, 0)) (n := cdN (p ++ acc)) (by omega)
        have s1 : p.length + acc.length ≤ 9223372036854775807 := by omega
        have s2 : p.length + acc.length + 1 ≤ 9223372036854775807 := by omega
        simp (maxDischargeDepth := 16) only [argE_nil, argE_cons, ↓vmD, vmV, vmStd, Nat.reduceMul, ↓reduceIte, Nat.reduceAdd, Nat.reduceSub, Nat.reduceEqDiff, Nat.reduceLT, Nat.reduceLeDiff, reduceCtorEq, Int.reduceToNat, Int.reduceLT, Int.reduceLE, Int.reduceEq, Int.reduceNeg, Int.reduceBEq, Int.reduceBNe, String.reduceEq, forall_const, ↓vmDA, vmVA, ↓vmQA, vmR, vmRA, ↓vmSA, vmSV, tyS, nuE, areDigits_v, panSum_v, rdigits_v, rsum_v, panLuhn_v, rLuhn_v, panCheck_v, rCheck_v, panCd_v, rCd_v, isPrefix_v, bs_size, w1, w2, hlt, z, hv, cd, bs_app, s1, s2, sc_byte2, r1, List.length_append, List.length_singleton, mkL, hda]
    | succ k ih =>
      have hlt : ((acc.length : Int) < ((b - 1 - p.length : Nat) : Int)) = True := eq_true (by omega)
      have r1 : (m : Int).tmod 10 = ((m % 10 : Nat) : Int) := by rw [Int.tmod_eq_emod_of_nonneg (by omega)]; omega
      have r2 : IntKind.i64.wrap ((m : Int).tdiv 10) = ((m / 10 : Nat) : Int) := by rw [Int.tdiv_eq_ediv_of_nonneg (by omega), w_i64 (by omega) (by omega)]; omega
      have r3 : IntKind.i64.wrap (((m % 10 : Nat) : Int) + 1) = ((m % 10 + 1 : Nat) : Int) := by rw [w_i64 (by omega) (by omega)]; omega
      have r4 : (((m % 10 : Nat) : Int) ≤ ((m % 10 + 1 : Nat) : Int)) = True := by simp; omega
      have r5 : (((m % 10 + 1 : Nat) : Int) ≤ ((ByteArray.mk #[48, 49, 50, 51, 52, 53, 54, 55, 56, 57]).size : Int)) = True := by simp [ByteArray.size]; omega
      have ds := dig_sl (m % 10) (by omega)
      have s1 : 1 + acc.length ≤ 9223372036854775807 := by omega
      refine LoopA.intro (by kernel_rfl) ?_
      intro ν fr; have nuE := fr.nu
      simp (maxDischargeDepth := 16) only [argE_nil, argE_cons, ↓vmD, vmV, vmStd, Nat.reduceMul, ↓reduceIte, Nat.reduceAdd, Nat.reduceSub, Nat.reduceEqDiff, Nat.reduceLT, Nat.reduceLeDiff, reduceCtorEq, Int.reduceToNat, Int.reduceLT, Int.reduceLE, Int.reduceEq, Int.reduceNeg, Int.reduceBEq, Int.reduceBNe, String.reduceEq, forall_const, ↓vmDA, vmVA, ↓vmQA, vmR, vmRA, ↓vmSA, vmSV, tyS, nuE, areDigits_v, panSum_v, rdigits_v, rsum_v, panLuhn_v, rLuhn_v, panCheck_v, rCheck_v, panCd_v, rCd_v, isPrefix_v, bs_size, w1, w2, hlt, r1, r2, r3, r4, r5, ds, bs_app, s1]
      exact LoopA.weak (ih (m / 10) (UInt8.ofNat (48 + m % 10) :: acc) (by rw [hd]; simp [digs]) (by simp; omega) (by rw [hq, Nat.div_div_eq_div_mul, List.length_cons, Nat.pow_succ]) (by omega)) (by simp only [subE, get_cons, Nat.reduceEqDiff, ↓reduceIte, reduceCtorEq, Nat.reduceAdd, and_self, and_true]) (SubA.refl _)
  · have hv : mkV p n len = .tuple #[.string (bs []), .int .i64 4] := by
      unfold mkV mkO
      rw [if_neg]
      intro h
      simp only [Bool.and_eq_true, decide_eq_true_eq] at h
      exact hok ⟨⟨h.1, h.2.1⟩, ⟨h.2.2.1, h.2.2.2.1⟩, h.2.2.2.2.1, h.2.2.2.2.2.1⟩
    by_cases h12 : len < 12
    · simp (maxDischargeDepth := 16) only [argE_nil, argE_cons, ↓vmD, vmV, vmStd, Nat.reduceMul, ↓reduceIte, Nat.reduceAdd, Nat.reduceSub, Nat.reduceEqDiff, Nat.reduceLT, Nat.reduceLeDiff, reduceCtorEq, Int.reduceToNat, Int.reduceLT, Int.reduceLE, Int.reduceEq, Int.reduceNeg, Int.reduceBEq, Int.reduceBNe, String.reduceEq, forall_const, ↓vmDA, vmVA, ↓vmQA, vmR, vmRA, ↓vmSA, vmSV, tyS, nuE, areDigits_v, panSum_v, rdigits_v, rsum_v, panLuhn_v, rLuhn_v, panCheck_v, rCheck_v, panCd_v, rCd_v, isPrefix_v, h12, hv, bs_nil]
    by_cases h19 : 19 < len
    · simp (maxDischargeDepth := 16) only [argE_nil, argE_cons, ↓vmD, vmV, vmStd, Nat.reduceMul, ↓reduceIte, Nat.reduceAdd, Nat.reduceSub, Nat.reduceEqDiff, Nat.reduceLT, Nat.reduceLeDiff, reduceCtorEq, Int.reduceToNat, Int.reduceLT, Int.reduceLE, Int.reduceEq, Int.reduceNeg, Int.reduceBEq, Int.reduceBNe, String.reduceEq, forall_const, ↓vmDA, vmVA, ↓vmQA, vmR, vmRA, ↓vmSA, vmSV, tyS, nuE, areDigits_v, panSum_v, rdigits_v, rsum_v, panLuhn_v, rLuhn_v, panCheck_v, rCheck_v, panCd_v, rCd_v, isPrefix_v, h12, h19, hv, bs_nil]
    by_cases h1 : p.length < 1
    · have q : ((p.length : Int) < 1) = True := eq_true (by omega)
      simp (maxDischargeDepth := 16) only [argE_nil, argE_cons, ↓vmD, vmV, vmStd, Nat.reduceMul, ↓reduceIte, Nat.reduceAdd, Nat.reduceSub, Nat.reduceEqDiff, Nat.reduceLT, Nat.reduceLeDiff, reduceCtorEq, Int.reduceToNat, Int.reduceLT, Int.reduceLE, Int.reduceEq, Int.reduceNeg, Int.reduceBEq, Int.reduceBNe, String.reduceEq, forall_const, ↓vmDA, vmVA, ↓vmQA, vmR, vmRA, ↓vmSA, vmSV, tyS, nuE, areDigits_v, panSum_v, rdigits_v, rsum_v, panLuhn_v, rLuhn_v, panCheck_v, rCheck_v, panCd_v, rCd_v, isPrefix_v, h12, h19, bs_size, q, hv, bs_nil]
    have q : ((p.length : Int) < 1) = False := eq_false (by omega)
    by_cases h10 : 10 < p.length
    · have q2 : ((10 : Int) < (p.length : Int)) = True := eq_true (by omega)
      simp (maxDischargeDepth := 16) only [argE_nil, argE_cons, ↓vmD, vmV, vmStd, Nat.reduceMul, ↓reduceIte, Nat.reduceAdd, Nat.reduceSub, Nat.reduceEqDiff, Nat.reduceLT, Nat.reduceLeDiff, reduceCtorEq, Int.reduceToNat, Int.reduceLT, Int.reduceLE, Int.reduceEq, Int.reduceNeg, Int.reduceBEq, Int.reduceBNe, String.reduceEq, forall_const, ↓vmDA, vmVA, ↓vmQA, vmR, vmRA, ↓vmSA, vmSV, tyS, nuE, areDigits_v, panSum_v, rdigits_v, rsum_v, panLuhn_v, rLuhn_v, panCheck_v, rCheck_v, panCd_v, rCd_v, isPrefix_v, h12, h19, bs_size, q, q2, hv, bs_nil]
    have q2 : ((10 : Int) < (p.length : Int)) = False := eq_false (by omega)
    by_cases h5 : p.all digB = true
    · have h6 : n < 0 := by
        rcases Int.lt_or_le n 0 with h | h
        · exact h
        · exact absurd ⟨⟨by omega, by omega⟩, ⟨by omega, by omega⟩, h5, h⟩ hok
      simp (maxDischargeDepth := 16) only [argE_nil, argE_cons, ↓vmD, vmV, vmStd, Nat.reduceMul, ↓reduceIte, Nat.reduceAdd, Nat.reduceSub, Nat.reduceEqDiff, Nat.reduceLT, Nat.reduceLeDiff, reduceCtorEq, Int.reduceToNat, Int.reduceLT, Int.reduceLE, Int.reduceEq, Int.reduceNeg, Int.reduceBEq, Int.reduceBNe, String.reduceEq, forall_const, ↓vmDA, vmVA, ↓vmQA, vmR, vmRA, ↓vmSA, vmSV, tyS, nuE, areDigits_v, panSum_v, rdigits_v, rsum_v, panLuhn_v, rLuhn_v, panCheck_v, rCheck_v, panCd_v, rCd_v, isPrefix_v, h12, h19, bs_size, q, q2, dv, h5, h6, hv, bs_nil]
    · have h5' : p.all digB = false := by simpa using h5
      simp (maxDischargeDepth := 16) only [argE_nil, argE_cons, ↓vmD, vmV, vmStd, Nat.reduceMul, ↓reduceIte, Nat.reduceAdd, Nat.reduceSub, Nat.reduceEqDiff, Nat.reduceLT, Nat.reduceLeDiff, reduceCtorEq, Int.reduceToNat, Int.reduceLT, Int.reduceLE, Int.reduceEq, Int.reduceNeg, Int.reduceBEq, Int.reduceBNe, String.reduceEq, forall_const, ↓vmDA, vmVA, ↓vmQA, vmR, vmRA, ↓vmSA, vmSV, tyS, nuE, areDigits_v, panSum_v, rdigits_v, rsum_v, panLuhn_v, rLuhn_v, panCheck_v, rCheck_v, panCd_v, rCd_v, isPrefix_v, h12, h19, bs_size, q, q2, dv, h5', hv, bs_nil]
theorem rMake_v (p : List UInt8) (hp : p.length ≤ 10000) (n len : Int) (hn1 : n ≤ 9223372036854775807) (A_ : AH) : valA Tryd.prog 8 #[.string (bs p), .int .i64 n, .int .i64 len] A_ = some (mkV p n len) := valA_eq (pureA_of (by kernel_rfl) (rMake_h p hp n len hn1))
/-! ### Finding -/
theorem hp_dec (s p : List UInt8) : Lib.hasPrefix s p = decide (s.take p.length = p) := by
  unfold Lib.hasPrefix
  rw [Bool.eq_iff_iff, List.isPrefixOf_iff_prefix, decide_eq_true_eq, List.prefix_iff_eq_take]
  exact ⟨fun h => h.symm, fun h => h.symm⟩
theorem hp_v (s p : List UInt8) (A : AH) : valA Tryd.prog 36 #[.string (bs s), .string (bs p)] A = some (.bool (decide (s.take p.length = p))) :=
  pureA_h (by kernel_rfl) (by kernel_rfl) fun h => by
    have := calls_same (fun w => Tryd.strings_HasPrefix (bs s) (bs p) w) h
    rw [← hp_dec]
    exact this.mono0 (fun e h2 hh => ⟨hh.1, by rw [hh.2]; exact Grew.refl h⟩)
theorem idx_step (n : Nat) (c : UInt8) (hc : digB c = true) (hn : n < 100000000000000000) : IntKind.i64.wrap (10 * (n : Int)) = ((10 * n : Nat) : Int) ∧ IntKind.i32.wrap ((c.toNat : Int) - 48) = ((c.toNat - 48 : Nat) : Int) ∧ IntKind.u8.wrap ((c.toNat : Int) - 48) = ((c.toNat - 48 : Nat) : Int) ∧ IntKind.i64.wrap ((c.toNat - 48 : Nat) : Int) = ((c.toNat - 48 : Nat) : Int) ∧ IntKind.i64.wrap (((10 * n : Nat) : Int) + ((c.toNat - 48 : Nat) : Int)) = ((10 * n + (c.toNat - 48) : Nat) : Int) := by
  have b2 := digB_out hc
  refine ⟨by rw [w_i64 (by omega) (by omega)]; omega, by rw [w_i32 (by omega) (by omega)]; omega, by rw [w_u8 (by omega) (by omega)]; omega, by rw [w_i64 (by omega) (by omega)], by rw [w_i64 (by omega) (by omega)]; omega⟩
theorem dval_small {l dn k : List UInt8} {c : UInt8} (ha : l = dn ++ c :: k) (hl : l.length ≤ 17) (hd : l.all digB = true) : dval dn < 100000000000000000 ∧ digB c = true := by
  rw [ha] at hd hl
  simp only [List.all_append, List.all_cons, Bool.and_eq_true, List.length_append, List.length_cons] at hd hl
  exact ⟨Nat.lt_of_lt_of_le (dval_lt dn.length dn rfl hd.1) (Nat.le_trans (Nat.pow_le_pow_right (by omega) (show dn.length ≤ 16 by omega)) (by decide)), hd.2.1⟩
theorem take_beq (a b : List UInt8) : (a == b) = decide (a = b) := by
  by_cases h : a = b
  · subst h; simp
  · simp [h]
end Go.Proofs.YtoonmogjjddeeaaDoor
