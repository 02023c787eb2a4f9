/-
Card numbers: the law of wrong and exchanged digits.
Conditions: none.
-/
import Derived.Test.YtnpjgimkllebhaaDoorPnK
namespace Go.Proofs.YtnpjgimkllebhaaDoor
open Go.Vm
set_option linter.unusedSimpArgs false
set_option linter.unusedVariables false
set_option maxHeartbeats 2000000
set_option maxRecDepth 20000
theorem split_at {l : List UInt8} {i : Nat} (h : i < l.length) : ∃ dn c k, l = dn ++ c :: k ∧ dn.length = i := ⟨l.take i, l[i], l.drop (i + 1), by simp, by simp; omega⟩
theorem u8_beq (c : UInt8) (n : Nat) (hn : n < 256) : ((c.toNat : Int) == (n : Int)) = decide (c = UInt8.ofNat n) := by
  have := u8_bne c n hn
  rw [bne, Bool.not_eq_eq_eq_not, Bool.not_not] at this
  exact this
theorem u8_eqb (b c : UInt8) : ((b.toNat : Int) == (c.toNat : Int)) = decide (b = c) := by
  have := u8_beq b c.toNat c.toNat_lt
  simpa using this
theorem detectsLaw_h (A : AH) (hT : TabA A) (l : List UInt8) (at_ dg : Nat) (ha0 : at_ < 256) (hd0 : dg < 256) : CallA Tryd.prog 7 #[.string (bs l), .int .u8 (at_ : Int), .int .u8 (dg : Int)] A (fun u_ A_ => u_ = .bool true ∧ SubA A A_) := by
  refine callA_of_denA ⟨Tryd.prog, 7, Tryd.f7, 114, [0, 1, 2, 6, 7, 8, 9], [], [(7, .p [(0, 0), (1, 0), (2, 0), (3, 0), (4, 0), (5, 0), (6, 0), (7, 0), (8, 0), (9, 0), (13, 0), (14, 0), (15, 0), (16, 0), (10, 1), (11, 0), (12, 0), (17, 0), (18, 0), (19, 0)]), (9, .q false), (12, .q false)], _⟩ (args := [_, _, _]) Tryd.func7 rfl (by kernel_rfl) Tryd.ntmps7 (by simp) (by kernel_rfl) ?_
  intro ν fr; have nuE := fr.nu
  have aw := awake04_w A hT
  by_cases h : 100 < l.length
  · have q : ((100 : Int) < (l.length : Int)) = True := eq_true (by omega)
    simp (maxDischargeDepth := 16) only [argE_nil, argE_cons, ↓vmD, vmV, vmStd, Nat.reduceMul, ↓reduceIte, Nat.reduceAdd, Nat.reduceSub, Nat.reduceEqDiff, Nat.reduceLT, Nat.reduceLeDiff, reduceCtorEq, Int.reduceToNat, Int.reduceLT, Int.reduceLE, Int.reduceEq, Int.reduceNeg, Int.reduceBEq, Int.reduceBNe, String.reduceEq, forall_const, ↓vmDA, vmVA, ↓vmQA, vmR, vmRA, ↓vmSA, vmSV, tyS, nuE, SubA.skip, SubA.refl, fr.2, areDigits_v, panSum_v, rdigits_v, rsum_v, panLuhn_v, rLuhn_v, panCheck_v, rCheck_v, panCd_v, rCd_v, ↓sA_usd, ↓sA_ust, soft_usd, soft_ust, cnvN_pu, cnvN_up, eqS_pp, isPrefix_v, rMake_v, panIndex_v, rIndex_v, panMask_v, rMask_v, panWithin_v, rWithin_v, panDgAt_v, rDgAt_v, rGroup_v, panGroup_v, rStrip_v, panStrip_v, bs_size, q, aw]
  have q : ((100 : Int) < (l.length : Int)) = False := eq_false (by omega)
  have lu := fun A => panLuhn_v l (by omega) A
  by_cases hl : luhnB l = true
  · obtain ⟨hne, hda, hs⟩ := luhn_dig hl
    have hpos : 0 < l.length := List.length_pos_iff.2 hne
    have z : ((l.length : Int) == 0) = false := by simp; omega
    have z2 : ((l.length : Int) = 0) = False := eq_false (by omega)
    have w1 : IntKind.i64.wrap (at_ : Int) = (at_ : Int) := w_i64 (by omega) (by omega)
    have w2 : (at_ : Int).tmod (l.length : Int) = ((at_ % l.length : Nat) : Int) := by rw [Int.tmod_eq_emod_of_nonneg (by omega)]; omega
    have w3 : (dg : Int).tmod 10 = ((dg % 10 : Nat) : Int) := mod_ten dg
    have w4 : IntKind.u8.wrap (48 + ((dg % 10 : Nat) : Int)) = ((48 + dg % 10 : Nat) : Int) := by rw [w_u8 (by omega) (by omega)]; omega
    have hi : at_ % l.length < l.length := Nat.mod_lt _ hpos
    obtain ⟨dn, c, k, ha, h3⟩ := split_at hi
    obtain ⟨lt, we, hc, hle, dc, ha', h3', hlen⟩ := at_cons ha h3 (by omega)
    generalize at_ % l.length = i at *
    have hx : (UInt8.ofNat (48 + dg % 10)).toNat = 48 + dg % 10 := by simp; omega
    have hxd : digB (UInt8.ofNat (48 + dg % 10)) = true := by unfold digB; rw [hx]; simp; omega
    have ne1 : (((48 + dg % 10 : Nat) : Int) != (c.toNat : Int)) = !decide (UInt8.ofNat (48 + dg % 10) = c) := by
      have := u8_eqb (UInt8.ofNat (48 + dg % 10)) c
      rw [hx] at this
      rw [bne, this]
    have rb := fun (A : AH) (g c : Nat) => rd_b1 (A := A) (g := g) (c := c) (ty := 5) (fr := (0, 0)) (n := 48 + dg % 10) (by omega)
    have b1 : ((i : Int) ≤ (l.length : Int)) = True := eq_true (by omega)
    have b2 : (((i + 1 : Nat) : Int) ≤ (l.length : Int)) = True := eq_true (by omega)
    have t0 : l.take l.length = l := List.take_length
    have t1 : l.take i = dn := by rw [ha, List.take_left' h3]
    have t2 : l.drop (i + 1) = k := by rw [ha', List.drop_left' h3']
    have s1 : dn.length + 1 ≤ 9223372036854775807 := by omega
    have s2 : dn.length + 1 + k.length ≤ 9223372036854775807 := by omega
    have lw := fun A => panLuhn_v (dn ++ [UInt8.ofNat (48 + dg % 10)] ++ k) (by simp; omega) A
    have hw := fun hcd => luhn_wrong (d := UInt8.ofNat (48 + dg % 10)) (by rw [← ha]; exact hl) hxd hcd
    have ap : dn ++ [UInt8.ofNat (48 + dg % 10)] ++ k = dn ++ UInt8.ofNat (48 + dg % 10) :: k := by simp
    rw [ap] at lw
    rcases Nat.eq_zero_or_pos i with hi0 | hi0
    · have zi : ((i : Int) == 0) = true := by rw [hi0]; rfl
      by_cases hcd : UInt8.ofNat (48 + dg % 10) = c
      · have ed : decide (UInt8.ofNat (48 + dg % 10) = c) = true := by simpa using hcd
        simp (maxDischargeDepth := 16) only [argE_nil, argE_cons, ↓vmD, vmV, vmStd, Nat.reduceMul, ↓reduceIte, Nat.reduceAdd, Nat.reduceSub, Nat.reduceEqDiff, Nat.reduceLT, Nat.reduceLeDiff, reduceCtorEq, Int.reduceToNat, Int.reduceLT, Int.reduceLE, Int.reduceEq, Int.reduceNeg, Int.reduceBEq, Int.reduceBNe, String.reduceEq, forall_const, ↓vmDA, vmVA, ↓vmQA, vmR, vmRA, ↓vmSA, vmSV, tyS, nuE, SubA.skip, SubA.refl, fr.2, areDigits_v, panSum_v, rdigits_v, rsum_v, panLuhn_v, rLuhn_v, panCheck_v, rCheck_v, panCd_v, rCd_v, ↓sA_usd, ↓sA_ust, soft_usd, soft_ust, cnvN_pu, cnvN_up, eqS_pp, isPrefix_v, rMake_v, panIndex_v, rIndex_v, panMask_v, rMask_v, panWithin_v, rWithin_v, panDgAt_v, rDgAt_v, rGroup_v, panGroup_v, rStrip_v, panStrip_v, bs_size, q, lu, hl, z, z2, w1, w2, w3, w4, bs_at, hc, ne1, b1, b2, sc_byte2, rb, bs_ext, t0, t1, t2, List.drop_zero, bs_app, List.length_append, List.length_singleton, s1, s2, ap, we, ed, zi, aw]
      · have ed : decide (UInt8.ofNat (48 + dg % 10) = c) = false := by simpa using hcd
        rw [hw hcd] at lw
        simp (maxDischargeDepth := 16) only [argE_nil, argE_cons, ↓vmD, vmV, vmStd, Nat.reduceMul, ↓reduceIte, Nat.reduceAdd, Nat.reduceSub, Nat.reduceEqDiff, Nat.reduceLT, Nat.reduceLeDiff, reduceCtorEq, Int.reduceToNat, Int.reduceLT, Int.reduceLE, Int.reduceEq, Int.reduceNeg, Int.reduceBEq, Int.reduceBNe, String.reduceEq, forall_const, ↓vmDA, vmVA, ↓vmQA, vmR, vmRA, ↓vmSA, vmSV, tyS, nuE, SubA.skip, SubA.refl, fr.2, areDigits_v, panSum_v, rdigits_v, rsum_v, panLuhn_v, rLuhn_v, panCheck_v, rCheck_v, panCd_v, rCd_v, ↓sA_usd, ↓sA_ust, soft_usd, soft_ust, cnvN_pu, cnvN_up, eqS_pp, isPrefix_v, rMake_v, panIndex_v, rIndex_v, panMask_v, rMask_v, panWithin_v, rWithin_v, panDgAt_v, rDgAt_v, rGroup_v, panGroup_v, rStrip_v, panStrip_v, bs_size, q, lu, hl, z, z2, w1, w2, w3, w4, bs_at, hc, ne1, b1, b2, sc_byte2, rb, bs_ext, t0, t1, t2, List.drop_zero, bs_app, List.length_append, List.length_singleton, s1, s2, ap, we, ed, lw, zi, aw]
    · have zi : ((i : Int) == 0) = false := by simp; omega
      obtain ⟨dn2, b, hb⟩ : ∃ d b, dn = d ++ [b] := ⟨dn.dropLast, dn.getLast (by intro e; subst e; simp at h3; omega), (List.dropLast_concat_getLast _).symm⟩
      have h5 : dn2.length = i - 1 := by rw [hb] at h3; simp at h3; omega
      have w5 : IntKind.i64.wrap ((i : Int) - 1) = ((i - 1 : Nat) : Int) := by rw [w_i64 (by omega) (by omega)]; omega
      have hcb : l[i - 1]? = some b := by rw [ha, hb, List.getElem?_append_left (by simp; omega), List.getElem?_append_right (by omega), h5]; simp
      have ebc := u8_eqb b c
      have b3 : (((i - 1 : Nat) : Int) ≤ (l.length : Int)) = True := eq_true (by omega)
      have b4 : ((i : Int) ≤ ((i + 1 : Nat) : Int)) = True := eq_true (by omega)
      have b5 : (((i - 1 : Nat) : Int) ≤ (i : Int)) = True := eq_true (by omega)
      have l2 : l = dn2 ++ ([b] ++ (c :: k)) := by rw [ha, hb]; simp
      have t3 : l.take (i - 1) = dn2 := by rw [l2, List.take_left' h5]
      have t4 : (l.take (i + 1)).drop i = [c] := sl_one ha' h3' h3
      have t5 : (l.take i).drop (i - 1) = [b] := by rw [t1, hb, List.drop_left' h5]
      have t6 : dn.drop (i - 1) = [b] := by rw [hb, List.drop_left' h5]
      have s3 : dn2.length + 1 ≤ 9223372036854775807 := by omega
      have s4 : dn2.length + 1 + 1 ≤ 9223372036854775807 := by omega
      have s5 : dn2.length + 1 + 1 + k.length ≤ 9223372036854775807 := by omega
      have e1 : ((b.toNat : Int) == 48) = decide (b = 48) := u8_beq b 48 (by omega)
      have e2 : ((c.toNat : Int) == 57) = decide (c = 57) := u8_beq c 57 (by omega)
      have e3 : ((b.toNat : Int) == 57) = decide (b = 57) := u8_beq b 57 (by omega)
      have e4 : ((c.toNat : Int) == 48) = decide (c = 48) := u8_beq c 48 (by omega)
      by_cases hbc : b = c
      · have ec : decide (b = c) = true := by simpa using hbc
        by_cases hcd : UInt8.ofNat (48 + dg % 10) = c
        · have ed : decide (UInt8.ofNat (48 + dg % 10) = c) = true := by simpa using hcd
          simp (maxDischargeDepth := 16) only [argE_nil, argE_cons, ↓vmD, vmV, vmStd, Nat.reduceMul, ↓reduceIte, Nat.reduceAdd, Nat.reduceSub, Nat.reduceEqDiff, Nat.reduceLT, Nat.reduceLeDiff, reduceCtorEq, Int.reduceToNat, Int.reduceLT, Int.reduceLE, Int.reduceEq, Int.reduceNeg, Int.reduceBEq, Int.reduceBNe, String.reduceEq, forall_const, ↓vmDA, vmVA, ↓vmQA, vmR, vmRA, ↓vmSA, vmSV, tyS, nuE, SubA.skip, SubA.refl, fr.2, areDigits_v, panSum_v, rdigits_v, rsum_v, panLuhn_v, rLuhn_v, panCheck_v, rCheck_v, panCd_v, rCd_v, ↓sA_usd, ↓sA_ust, soft_usd, soft_ust, cnvN_pu, cnvN_up, eqS_pp, isPrefix_v, rMake_v, panIndex_v, rIndex_v, panMask_v, rMask_v, panWithin_v, rWithin_v, panDgAt_v, rDgAt_v, rGroup_v, panGroup_v, rStrip_v, panStrip_v, bs_size, q, lu, hl, z, z2, w1, w2, w3, w4, bs_at, hc, ne1, b1, b2, sc_byte2, rb, bs_ext, t0, t1, t2, List.drop_zero, bs_app, List.length_append, List.length_singleton, s1, s2, ap, we, ed, zi, w5, hcb, ebc, ec, aw]
        · have ed : decide (UInt8.ofNat (48 + dg % 10) = c) = false := by simpa using hcd
          rw [hw hcd] at lw
          simp (maxDischargeDepth := 16) only [argE_nil, argE_cons, ↓vmD, vmV, vmStd, Nat.reduceMul, ↓reduceIte, Nat.reduceAdd, Nat.reduceSub, Nat.reduceEqDiff, Nat.reduceLT, Nat.reduceLeDiff, reduceCtorEq, Int.reduceToNat, Int.reduceLT, Int.reduceLE, Int.reduceEq, Int.reduceNeg, Int.reduceBEq, Int.reduceBNe, String.reduceEq, forall_const, ↓vmDA, vmVA, ↓vmQA, vmR, vmRA, ↓vmSA, vmSV, tyS, nuE, SubA.skip, SubA.refl, fr.2, areDigits_v, panSum_v, rdigits_v, rsum_v, panLuhn_v, rLuhn_v, panCheck_v, rCheck_v, panCd_v, rCd_v, ↓sA_usd, ↓sA_ust, soft_usd, soft_ust, cnvN_pu, cnvN_up, eqS_pp, isPrefix_v, rMake_v, panIndex_v, rIndex_v, panMask_v, rMask_v, panWithin_v, rWithin_v, panDgAt_v, rDgAt_v, rGroup_v, panGroup_v, rStrip_v, panStrip_v, bs_size, q, lu, hl, z, z2, w1, w2, w3, w4, bs_at, hc, ne1, b1, b2, sc_byte2, rb, bs_ext, t0, t1, t2, List.drop_zero, bs_app, List.length_append, List.length_singleton, s1, s2, ap, we, ed, lw, zi, w5, hcb, ebc, ec, aw]
      · have ec : decide (b = c) = false := by simpa using hbc
        have lx := fun A => panLuhn_v (dn2 ++ [c] ++ [b] ++ k) (by simp; omega) A
        have hsw := luhn_swap (a := dn2) (b := k) (c := b) (d := c) (by rw [show dn2 ++ b :: c :: k = l by rw [l2]; simp]; exact hl) hbc
        rw [show dn2 ++ [c] ++ [b] ++ k = dn2 ++ c :: b :: k by simp, hsw] at lx
        have ap2 : dn2 ++ [c] ++ [b] ++ k = dn2 ++ c :: b :: k := by simp
        by_cases hcd : UInt8.ofNat (48 + dg % 10) = c
        · have ed : decide (UInt8.ofNat (48 + dg % 10) = c) = true := by simpa using hcd
          simp (maxDischargeDepth := 16) only [argE_nil, argE_cons, ↓vmD, vmV, vmStd, Nat.reduceMul, ↓reduceIte, Nat.reduceAdd, Nat.reduceSub, Nat.reduceEqDiff, Nat.reduceLT, Nat.reduceLeDiff, reduceCtorEq, Int.reduceToNat, Int.reduceLT, Int.reduceLE, Int.reduceEq, Int.reduceNeg, Int.reduceBEq, Int.reduceBNe, String.reduceEq, forall_const, ↓vmDA, vmVA, ↓vmQA, vmR, vmRA, ↓vmSA, vmSV, tyS, nuE, SubA.skip, SubA.refl, fr.2, areDigits_v, panSum_v, rdigits_v, rsum_v, panLuhn_v, rLuhn_v, panCheck_v, rCheck_v, panCd_v, rCd_v, ↓sA_usd, ↓sA_ust, soft_usd, soft_ust, cnvN_pu, cnvN_up, eqS_pp, isPrefix_v, rMake_v, panIndex_v, rIndex_v, panMask_v, rMask_v, panWithin_v, rWithin_v, panDgAt_v, rDgAt_v, rGroup_v, panGroup_v, rStrip_v, panStrip_v, bs_size, q, lu, hl, z, z2, w1, w2, w3, w4, bs_at, hc, ne1, b1, b2, sc_byte2, rb, bs_ext, t0, t1, t2, List.drop_zero, bs_app, List.length_append, List.length_singleton, s1, s2, ap, we, ed, zi, w5, hcb, ebc, ec, b3, b4, b5, t3, t4, t6, s3, s4, s5, e1, e2, e3, e4, lx, ap2, aw, BEq.rfl]
          by_cases y1 : b = 48 <;> by_cases y2 : c = 57 <;> by_cases y3 : b = 57 <;> by_cases y4 : c = 48 <;> simp [y1, y2, y3, y4]
        · have ed : decide (UInt8.ofNat (48 + dg % 10) = c) = false := by simpa using hcd
          rw [hw hcd] at lw
          simp (maxDischargeDepth := 16) only [argE_nil, argE_cons, ↓vmD, vmV, vmStd, Nat.reduceMul, ↓reduceIte, Nat.reduceAdd, Nat.reduceSub, Nat.reduceEqDiff, Nat.reduceLT, Nat.reduceLeDiff, reduceCtorEq, Int.reduceToNat, Int.reduceLT, Int.reduceLE, Int.reduceEq, Int.reduceNeg, Int.reduceBEq, Int.reduceBNe, String.reduceEq, forall_const, ↓vmDA, vmVA, ↓vmQA, vmR, vmRA, ↓vmSA, vmSV, tyS, nuE, SubA.skip, SubA.refl, fr.2, areDigits_v, panSum_v, rdigits_v, rsum_v, panLuhn_v, rLuhn_v, panCheck_v, rCheck_v, panCd_v, rCd_v, ↓sA_usd, ↓sA_ust, soft_usd, soft_ust, cnvN_pu, cnvN_up, eqS_pp, isPrefix_v, rMake_v, panIndex_v, rIndex_v, panMask_v, rMask_v, panWithin_v, rWithin_v, panDgAt_v, rDgAt_v, rGroup_v, panGroup_v, rStrip_v, panStrip_v, bs_size, q, lu, hl, z, z2, w1, w2, w3, w4, bs_at, hc, ne1, b1, b2, sc_byte2, rb, bs_ext, t0, t1, t2, List.drop_zero, bs_app, List.length_append, List.length_singleton, s1, s2, ap, we, ed, lw, zi, w5, hcb, ebc, ec, b3, b4, b5, t3, t4, t6, s3, s4, s5, e1, e2, e3, e4, lx, ap2, aw, BEq.rfl]
          by_cases y1 : b = 48 <;> by_cases y2 : c = 57 <;> by_cases y3 : b = 57 <;> by_cases y4 : c = 48 <;> simp [y1, y2, y3, y4]
  · have hl2 : luhnB l = false := by simpa using hl
    simp (maxDischargeDepth := 16) only [argE_nil, argE_cons, ↓vmD, vmV, vmStd, Nat.reduceMul, ↓reduceIte, Nat.reduceAdd, Nat.reduceSub, Nat.reduceEqDiff, Nat.reduceLT, Nat.reduceLeDiff, reduceCtorEq, Int.reduceToNat, Int.reduceLT, Int.reduceLE, Int.reduceEq, Int.reduceNeg, Int.reduceBEq, Int.reduceBNe, String.reduceEq, forall_const, ↓vmDA, vmVA, ↓vmQA, vmR, vmRA, ↓vmSA, vmSV, tyS, nuE, SubA.skip, SubA.refl, fr.2, areDigits_v, panSum_v, rdigits_v, rsum_v, panLuhn_v, rLuhn_v, panCheck_v, rCheck_v, panCd_v, rCd_v, ↓sA_usd, ↓sA_ust, soft_usd, soft_ust, cnvN_pu, cnvN_up, eqS_pp, isPrefix_v, rMake_v, panIndex_v, rIndex_v, panMask_v, rMask_v, panWithin_v, rWithin_v, panDgAt_v, rDgAt_v, rGroup_v, panGroup_v, rStrip_v, panStrip_v, bs_size, q, lu, hl2, aw]
theorem detectsLaw_w (A : AH) (hT : TabA A) (l : List UInt8) (at_ dg : Nat) (ha0 : at_ < 256) (hd0 : dg < 256) (B_ : AH) (hB_ : SubA A B_) : valA Tryd.prog 7 #[.string (bs l), .int .u8 (at_ : Int), .int .u8 (dg : Int)] B_ = some (.bool true) := valA_eq (pureA_at (by kernel_rfl) (detectsLaw_h A hT l at_ dg ha0 hd0) hB_)
theorem detectsLaw_v (A : AH) (hT : TabA A) (l : List UInt8) (at_ dg : Nat) (ha0 : at_ < 256) (hd0 : dg < 256) : valA Tryd.prog 7 #[.string (bs l), .int .u8 (at_ : Int), .int .u8 (dg : Int)] A = some (.bool true) := valA_eq (pureA_at (by kernel_rfl) (detectsLaw_h A hT l at_ dg ha0 hd0) (SubA.refl _))
end Go.Proofs.YtnpjgimkllebhaaDoor
