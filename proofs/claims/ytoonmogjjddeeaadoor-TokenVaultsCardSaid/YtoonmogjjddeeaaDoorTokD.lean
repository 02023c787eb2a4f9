/-
Tokens: the walk of the law TokenDomains.
Conditions: none.
-/
import Derived.Test.YtoonmogjjddeeaaDoorTokA
namespace Go.Proofs.YtoonmogjjddeeaaDoor
open Go.Vm
set_option linter.unusedSimpArgs false
set_option linter.unusedVariables false
set_option maxHeartbeats 4000000
set_option maxRecDepth 20000
theorem cn_mk (n : Nat) (hn : n ≤ 65535) : mkV [52, 48, 48, 48, 48, 48] (n : Int) 16 = .tuple #[.string (bs (mkL [52, 48, 48, 48, 48, 48] 9 n)), .int .i64 0] := by
  have h : mkO [52, 48, 48, 48, 48, 48] (n : Int) 16 = true := by
    unfold mkO
    have : n < 1000000000 := by omega
    simp [digB]
    exact this
  unfold mkV
  rw [if_pos h]
  rfl
theorem cn_len (n : Nat) : ((mkL [52, 48, 48, 48, 48, 48] 9 n)).length = 16 := by rw [mkL_len]; rfl
theorem cn_chk (n : Nat) : chk (mkL [52, 48, 48, 48, 48, 48] 9 n) = 0 := mkL_chk (by decide) (by decide) (by decide)
theorem cn_is (n : Nat) : isV [57] 16 (mkL [52, 48, 48, 48, 48, 48] 9 n) = false := by
  unfold isV
  have : ((mkL [52, 48, 48, 48, 48, 48] 9 n)).take 1 = [52] := rfl
  simp [this]
theorem resX_ok {x : Tok} {req mer : List UInt8} {at_ : Int} (hs : x.st = 1) (h1 : req = x.req ∧ (x.mer = [] ∨ mer = x.mer)) (h2 : (0 ≤ at_ ∧ at_ ≤ 1099511627776) ∧ (x.unt = 0 ∨ at_ < x.unt)) : resX x req mer at_ = .tuple #[.string (bs x.pan), .int .i64 0] := by
  have h : resE x req mer at_ = 0 := by unfold resE; rw [if_neg (fun h => h hs), if_neg (fun h => h h1), if_neg (fun h => h h2)]
  unfold resX; rw [h, if_pos rfl]
theorem resX_14 {x : Tok} {req mer : List UInt8} {at_ : Int} (hs : x.st = 1) (h1 : req = x.req ∧ (x.mer = [] ∨ mer = x.mer)) (h2 : ¬ ((0 ≤ at_ ∧ at_ ≤ 1099511627776) ∧ (x.unt = 0 ∨ at_ < x.unt))) : resX x req mer at_ = .tuple #[.string ⟨#[]⟩, .int .i64 14] :=
  resX_err (by unfold resE; rw [if_neg (fun h => h hs), if_neg (fun h => h h1), if_pos h2]) (by decide)
theorem resX_18 {x : Tok} {req mer : List UInt8} {at_ : Int} (hs : x.st = 1) (h1 : ¬ (req = x.req ∧ (x.mer = [] ∨ mer = x.mer))) : resX x req mer at_ = .tuple #[.string ⟨#[]⟩, .int .i64 18] :=
  resX_err (by unfold resE; rw [if_neg (fun h => h hs), if_pos h1]) (by decide)
theorem domLaw_h (A : AH) (hT : TabA A) (n : Nat) (hn : n ≤ 65535) (dr dm rq me : List UInt8) (un at_ : Int) (sus : Bool) (z1 : dr.length ≤ 140737488351232) (z2 : dm.length ≤ 140737488351232) (z3 : rq.length ≤ 140737488351232) (z4 : me.length ≤ 140737488351232) : CallA Tryd.prog 3 #[.int .u16 (n : Int), .agg #[.string (bs dr), .string (bs dm), .int .i64 un], .string (bs rq), .string (bs me), .int .i64 at_, .bool sus] A (fun u_ A_ => u_ = .bool true ∧ SubA A A_) := by
  refine callA_of_denA ⟨Tryd.prog, 3, Tryd.f3, 158, [0, 1, 2, 3, 4, 5, 7, 12, 13, 14, 15, 16, 17, 18, 19, 20, 21, 22], [7, 9, 10], [], _⟩ (args := [_, _, _, _, _, _]) Tryd.func3 rfl (by kernel_rfl) Tryd.ntmps3 (by simp) (by kernel_rfl) ?_
  intro ν fr; have nuE := fr.nu
  have f0 := fr.2 0
  have aw := awk_w A hT
  have aw0 := aw _ (SubA.fresh (o := (Obj.cells #[.string (bs dr), .string (bs dm), .int .i64 un] 24)) f0 (SubA.refl _))
  have w1 : IntKind.i64.wrap ((dr.length : Int) + (dm.length : Int)) = ((dr.length + dm.length : Nat) : Int) := by rw [w_i64 (by omega) (by omega)]; omega
  have w2 : IntKind.i64.wrap (((dr.length + dm.length : Nat) : Int) + (rq.length : Int)) = ((dr.length + dm.length + rq.length : Nat) : Int) := by rw [w_i64 (by omega) (by omega)]; omega
  have w3 : IntKind.i64.wrap (((dr.length + dm.length + rq.length : Nat) : Int) + (me.length : Int)) = ((dr.length + dm.length + rq.length + me.length : Nat) : Int) := by rw [w_i64 (by omega) (by omega)]; omega
  have wn : IntKind.i64.wrap (n : Int) = (n : Int) := w_i64 (by omega) (by omega)
  by_cases h200 : 200 < dr.length + dm.length + rq.length + me.length
  · have q : ((200 : Int) < ((dr.length + dm.length + rq.length + me.length : Nat) : Int)) = True := eq_true (by omega)
    simp (maxDischargeDepth := 16) only [argE_nil, argE_cons, ↓vmD, vmV, vmStd, Nat.reduceMul, ↓reduceIte, Nat.reduceAdd, Nat.reduceSub, Nat.reduceEqDiff, Nat.reduceLT, Nat.reduceLeDiff, reduceCtorEq, Int.reduceToNat, Int.reduceLT, Int.reduceLE, Int.reduceEq, Int.reduceNeg, Int.reduceBEq, Int.reduceBNe, String.reduceEq, forall_const, ↓vmDA, vmVA, ↓vmQA, vmR, vmRA, ↓vmSA, vmSV, tyS, nuE, SubA.skip, SubA.refl, fr.2, areDigits_v, panSum_v, rdigits_v, rsum_v, panLuhn_v, rLuhn_v, panCheck_v, rCheck_v, panCd_v, rCd_v, isPrefix_v, rMake_v, isLet_v, isId_v, isNm_v, isTm_v, bs_size, w1, w2, w3, q, aw0]
  have q : ((200 : Int) < ((dr.length + dm.length + rq.length + me.length : Nat) : Int)) = False := eq_false (by omega)
  have m1 := fun A => show valA Tryd.prog 8 #[.string ⟨#[52, 48, 48, 48, 48, 48]⟩, .int .i64 (n : Int), .int .i64 16] A = some (.tuple #[.string (bs (mkL [52, 48, 48, 48, 48, 48] 9 n)), .int .i64 0]) from (rMake_v [52, 48, 48, 48, 48, 48] (by decide) (n : Int) 16 (by omega) A).trans (congrArg some (cn_mk n hn))
  simp (maxDischargeDepth := 16) only [argE_nil, argE_cons, ↓vmD, vmV, vmStd, Nat.reduceMul, ↓reduceIte, Nat.reduceAdd, Nat.reduceSub, Nat.reduceEqDiff, Nat.reduceLT, Nat.reduceLeDiff, reduceCtorEq, Int.reduceToNat, Int.reduceLT, Int.reduceLE, Int.reduceEq, Int.reduceNeg, Int.reduceBEq, Int.reduceBNe, String.reduceEq, forall_const, ↓vmDA, vmVA, ↓vmQA, vmR, vmRA, ↓vmSA, vmSV, tyS, nuE, SubA.skip, SubA.refl, fr.2, areDigits_v, panSum_v, rdigits_v, rsum_v, panLuhn_v, rLuhn_v, panCheck_v, rCheck_v, panCd_v, rCd_v, isPrefix_v, rMake_v, isLet_v, isId_v, isNm_v, isTm_v, bs_size, w1, w2, w3, q]
  refine New.use (X := [(ν 0, (Obj.cells #[.string (bs dr), .string (bs dm), .int .i64 un] 24))]) (p := [57]) (len := 16) (by decide +kernel) (newP_h A hT [57] (by decide) 16) (SubA.fresh f0 (SubA.refl _)) (SubA.left [_] _) (Dis.one f0).symm ?_
  intro vb E0 hE0 d0 dx0
  generalize ν 0 = nb at *
  intro ν1 fr1
  have fr := fr1
  have nuE := fr.nu
  have k0 : Vm.look ((E0 ++ A) ++ [(nb, (Obj.cells #[.string (bs dr), .string (bs dm), .int .i64 un] 24))]) nb = some (Obj.cells #[.string (bs dr), .string (bs dm), .int .i64 un] 24) := dx0.right _ _ (by simp [Vm.look])
  simp (maxDischargeDepth := 16) only [argE_nil, argE_cons, ↓vmD, vmV, vmStd, Nat.reduceMul, ↓reduceIte, Nat.reduceAdd, Nat.reduceSub, Nat.reduceEqDiff, Nat.reduceLT, Nat.reduceLeDiff, reduceCtorEq, Int.reduceToNat, Int.reduceLT, Int.reduceLE, Int.reduceEq, Int.reduceNeg, Int.reduceBEq, Int.reduceBNe, String.reduceEq, forall_const, ↓vmDA, vmVA, ↓vmQA, vmR, vmRA, ↓vmSA, vmSV, tyS, nuE, SubA.skip, SubA.refl, fr.2, areDigits_v, panSum_v, rdigits_v, rsum_v, panLuhn_v, rLuhn_v, panCheck_v, rCheck_v, panCd_v, rCd_v, isPrefix_v, rMake_v, isLet_v, isId_v, isNm_v, isTm_v, m1, wn, k0]
  refine VauP.use (X := [(nb, (Obj.cells #[.string (bs dr), .string (bs dm), .int .i64 un] 24))]) (provP_h E0 A d0 hT vb [57] 16 [] hE0 (mkL [52, 48, 48, 48, 48, 48] 9 n) dr dm un 0 (by rw [cn_len]; decide) (by omega) (by omega)) (SubA.left _ _) dx0.right dx0 ?_
  intro E1 hE1 d1 dx1
  rw [List.append_assoc]
  have dE : Dis E1 (A ++ [(nb, (Obj.cells #[.string (bs dr), .string (bs dm), .int .i64 un] 24))]) := Dis.appr d1 (dx1.subl (SubA.left E1 A))
  have sA1 : SubA A (E1 ++ (A ++ [(nb, (Obj.cells #[.string (bs dr), .string (bs dm), .int .i64 un] 24))])) := SubA.trans (SubA.left A _) dE.right
  have kx : Vm.look (A ++ [(nb, (Obj.cells #[.string (bs dr), .string (bs dm), .int .i64 un] 24))]) nb = some (Obj.cells #[.string (bs dr), .string (bs dm), .int .i64 un] 24) := by rw [look_app f0]; simp [Vm.look]
  have k1 := dE.right _ _ kx
  have aw1 := aw _ sA1
  by_cases hg : provE [57] 16 [] (mkL [52, 48, 48, 48, 48, 48] 9 n) dr dm un 0 = 0
  rotate_left
  · have hv := (prov_err rfl hg).1
    generalize provE [57] 16 [] (mkL [52, 48, 48, 48, 48, 48] 9 n) dr dm un 0 = k at *
    have q1 : (k != 0) = true := by simpa using hg
    rw [hv]
    intro ν2 fr2
    have fr := fr2
    have nuE := fr.nu
    simp (maxDischargeDepth := 16) only [argE_nil, argE_cons, ↓vmD, vmV, vmStd, Nat.reduceMul, ↓reduceIte, Nat.reduceAdd, Nat.reduceSub, Nat.reduceEqDiff, Nat.reduceLT, Nat.reduceLeDiff, reduceCtorEq, Int.reduceToNat, Int.reduceLT, Int.reduceLE, Int.reduceEq, Int.reduceNeg, Int.reduceBEq, Int.reduceBNe, String.reduceEq, forall_const, ↓vmDA, vmVA, ↓vmQA, vmR, vmRA, ↓vmSA, vmSV, tyS, nuE, SubA.skip, SubA.refl, fr.2, areDigits_v, panSum_v, rdigits_v, rsum_v, panLuhn_v, rLuhn_v, panCheck_v, rCheck_v, panCd_v, rCd_v, isPrefix_v, rMake_v, isLet_v, isId_v, isNm_v, isTm_v, q1, hg, aw1]
    exact sA1
  have hv : provV [57] 16 [] (mkL [52, 48, 48, 48, 48, 48] 9 n) dr dm un 0 = .tuple #[.string (bs (mkL [57] 14 0)), .int .i64 0] := by unfold provV; rw [if_pos hg]; rfl
  have hl : provL [57] 16 [] (mkL [52, 48, 48, 48, 48, 48] 9 n) dr dm un 0 = [⟨mkL [57] 14 0, (mkL [52, 48, 48, 48, 48, 48] 9 n), dr, dm, un, 1, 0⟩] := by unfold provL; rw [if_pos hg]; rfl
  rw [hv]
  rw [hl] at hE1
  generalize mkL [57] 14 0 = tk at *
  have t1 : ((bs rq).toList = (bs dr).toList) = (rq = dr) := by rw [bs_list, bs_list]
  have t2 : ((bs me).toList = (bs dm).toList) = (me = dm) := by rw [bs_list, bs_list]
  have t3 : ((bs dm).toList = []) = (dm = []) := by rw [bs_list]
  intro ν2 fr2
  have fr := fr2
  have nuE := fr.nu
  cases sus with
  | true =>
    simp (maxDischargeDepth := 16) only [argE_nil, argE_cons, ↓vmD, vmV, vmStd, Nat.reduceMul, ↓reduceIte, Nat.reduceAdd, Nat.reduceSub, Nat.reduceEqDiff, Nat.reduceLT, Nat.reduceLeDiff, reduceCtorEq, Int.reduceToNat, Int.reduceLT, Int.reduceLE, Int.reduceEq, Int.reduceNeg, Int.reduceBEq, Int.reduceBNe, String.reduceEq, forall_const, ↓vmDA, vmVA, ↓vmQA, vmR, vmRA, ↓vmSA, vmSV, tyS, nuE, SubA.skip, SubA.refl, fr.2, areDigits_v, panSum_v, rdigits_v, rsum_v, panLuhn_v, rLuhn_v, panCheck_v, rCheck_v, panCd_v, rCd_v, isPrefix_v, rMake_v, isLet_v, isId_v, isNm_v, isTm_v]
    refine VauP.use1 (suspT_h E1 vb [57] 16 _ hE1 tk 0 _ (posT_one ⟨tk, (mkL [52, 48, 48, 48, 48, 48] 9 n), dr, dm, un, 1, 0⟩) rfl rfl) (SubA.left _ _) dE.right dE ?_
    intro E2 hE2 dE2
    have sA2 : SubA A (E2 ++ (A ++ [(nb, (Obj.cells #[.string (bs dr), .string (bs dm), .int .i64 un] 24))])) := SubA.trans (SubA.left A _) dE2.right
    have k2 := dE2.right _ _ kx
    have aw2 := aw _ sA2
    have rs := resS_w E2 vb [57] 16 _ hE2 tk rq me at_ 0 { tok := tk, pan := (mkL [52, 48, 48, 48, 48, 48] 9 n), req := dr, mer := dm, unt := un, st := 2, cr := 0 } (posT_one _) rfl _ (SubA.left E2 (A ++ [(nb, (Obj.cells #[.string (bs dr), .string (bs dm), .int .i64 un] 24))]))
    rw [resX_err (k := 8) (by unfold resE; rw [if_pos (by simp)]) (by decide)] at rs
    intro ν3 fr3
    have fr := fr3
    have nuE := fr.nu
    simp (maxDischargeDepth := 16) only [argE_nil, argE_cons, ↓vmD, vmV, vmStd, Nat.reduceMul, ↓reduceIte, Nat.reduceAdd, Nat.reduceSub, Nat.reduceEqDiff, Nat.reduceLT, Nat.reduceLeDiff, reduceCtorEq, Int.reduceToNat, Int.reduceLT, Int.reduceLE, Int.reduceEq, Int.reduceNeg, Int.reduceBEq, Int.reduceBNe, String.reduceEq, forall_const, ↓vmDA, vmVA, ↓vmQA, vmR, vmRA, ↓vmSA, vmSV, tyS, nuE, SubA.skip, SubA.refl, fr.2, areDigits_v, panSum_v, rdigits_v, rsum_v, panLuhn_v, rLuhn_v, panCheck_v, rCheck_v, panCd_v, rCd_v, isPrefix_v, rMake_v, isLet_v, isId_v, isNm_v, isTm_v, rs, k2, t1, t2, t3, bs_ne, aw2]
    simp only [ite_self]
    exact sA2
  | false =>
    have rs := resS_w E1 vb [57] 16 _ hE1 tk rq me at_ 0 { tok := tk, pan := (mkL [52, 48, 48, 48, 48, 48] 9 n), req := dr, mer := dm, unt := un, st := 1, cr := 0 } (posT_one _) rfl _ (SubA.left E1 (A ++ [(nb, (Obj.cells #[.string (bs dr), .string (bs dm), .int .i64 un] 24))]))
    by_cases hin : rq = dr ∧ (dm = [] ∨ me = dm)
    · by_cases ht : (0 ≤ at_ ∧ at_ ≤ 1099511627776) ∧ (un = 0 ∨ at_ < un)
      · rw [resX_ok rfl hin ht] at rs
        simp (maxDischargeDepth := 16) only [argE_nil, argE_cons, ↓vmD, vmV, vmStd, Nat.reduceMul, ↓reduceIte, Nat.reduceAdd, Nat.reduceSub, Nat.reduceEqDiff, Nat.reduceLT, Nat.reduceLeDiff, reduceCtorEq, Int.reduceToNat, Int.reduceLT, Int.reduceLE, Int.reduceEq, Int.reduceNeg, Int.reduceBEq, Int.reduceBNe, String.reduceEq, forall_const, ↓vmDA, vmVA, ↓vmQA, vmR, vmRA, ↓vmSA, vmSV, tyS, nuE, SubA.skip, SubA.refl, fr.2, areDigits_v, panSum_v, rdigits_v, rsum_v, panLuhn_v, rLuhn_v, panCheck_v, rCheck_v, panCd_v, rCd_v, isPrefix_v, rMake_v, isLet_v, isId_v, isNm_v, isTm_v, rs, k1, t1, t2, t3, bs_ne, aw1]
        generalize SubA A (E1 ++ (A ++ [(nb, (Obj.cells #[.string (bs dr), .string (bs dm), .int .i64 un] 24))])) = Q at sA1 ⊢
        by_cases a1 : rq = dr <;> by_cases a3 : dm = [] <;> by_cases a4 : me = dm <;> by_cases a5 : (0 ≤ at_ ∧ at_ ≤ 1099511627776) <;> by_cases a6 : un = 0 <;> by_cases a7 : at_ < un <;> simp [a1, a3, a4, a5, a6, a7] at hin ht ⊢ <;> exact sA1
      · rw [resX_14 rfl hin ht] at rs
        simp (maxDischargeDepth := 16) only [argE_nil, argE_cons, ↓vmD, vmV, vmStd, Nat.reduceMul, ↓reduceIte, Nat.reduceAdd, Nat.reduceSub, Nat.reduceEqDiff, Nat.reduceLT, Nat.reduceLeDiff, reduceCtorEq, Int.reduceToNat, Int.reduceLT, Int.reduceLE, Int.reduceEq, Int.reduceNeg, Int.reduceBEq, Int.reduceBNe, String.reduceEq, forall_const, ↓vmDA, vmVA, ↓vmQA, vmR, vmRA, ↓vmSA, vmSV, tyS, nuE, SubA.skip, SubA.refl, fr.2, areDigits_v, panSum_v, rdigits_v, rsum_v, panLuhn_v, rLuhn_v, panCheck_v, rCheck_v, panCd_v, rCd_v, isPrefix_v, rMake_v, isLet_v, isId_v, isNm_v, isTm_v, rs, k1, t1, t2, t3, bs_ne, aw1]
        generalize SubA A (E1 ++ (A ++ [(nb, (Obj.cells #[.string (bs dr), .string (bs dm), .int .i64 un] 24))])) = Q at sA1 ⊢
        by_cases a1 : rq = dr <;> by_cases a3 : dm = [] <;> by_cases a4 : me = dm <;> by_cases a5 : (0 ≤ at_ ∧ at_ ≤ 1099511627776) <;> by_cases a6 : un = 0 <;> by_cases a7 : at_ < un <;> simp [a1, a3, a4, a5, a6, a7] at hin ht ⊢ <;> exact sA1
    · rw [resX_18 rfl hin] at rs
      simp (maxDischargeDepth := 16) only [argE_nil, argE_cons, ↓vmD, vmV, vmStd, Nat.reduceMul, ↓reduceIte, Nat.reduceAdd, Nat.reduceSub, Nat.reduceEqDiff, Nat.reduceLT, Nat.reduceLeDiff, reduceCtorEq, Int.reduceToNat, Int.reduceLT, Int.reduceLE, Int.reduceEq, Int.reduceNeg, Int.reduceBEq, Int.reduceBNe, String.reduceEq, forall_const, ↓vmDA, vmVA, ↓vmQA, vmR, vmRA, ↓vmSA, vmSV, tyS, nuE, SubA.skip, SubA.refl, fr.2, areDigits_v, panSum_v, rdigits_v, rsum_v, panLuhn_v, rLuhn_v, panCheck_v, rCheck_v, panCd_v, rCd_v, isPrefix_v, rMake_v, isLet_v, isId_v, isNm_v, isTm_v, rs, k1, t1, t2, t3, bs_ne, aw1]
      generalize SubA A (E1 ++ (A ++ [(nb, (Obj.cells #[.string (bs dr), .string (bs dm), .int .i64 un] 24))])) = Q at sA1 ⊢
      by_cases a1 : rq = dr <;> by_cases a3 : dm = [] <;> by_cases a4 : me = dm <;> by_cases a5 : (0 ≤ at_ ∧ at_ ≤ 1099511627776) <;> by_cases a6 : un = 0 <;> by_cases a7 : at_ < un <;> simp [a1, a3, a4, a5, a6, a7] at hin ⊢ <;> exact sA1
theorem domLaw_w (A : AH) (hT : TabA A) (n : Nat) (hn : n ≤ 65535) (dr dm rq me : List UInt8) (un at_ : Int) (sus : Bool) (z1 : dr.length ≤ 140737488351232) (z2 : dm.length ≤ 140737488351232) (z3 : rq.length ≤ 140737488351232) (z4 : me.length ≤ 140737488351232) (B_ : AH) (hB_ : SubA A B_) : valA Tryd.prog 3 #[.int .u16 (n : Int), .agg #[.string (bs dr), .string (bs dm), .int .i64 un], .string (bs rq), .string (bs me), .int .i64 at_, .bool sus] B_ = some (.bool true) := valA_eq (pureA_at (by kernel_rfl) (domLaw_h A hT n hn dr dm rq me un at_ sus z1 z2 z3 z4) hB_)
theorem domLaw_v (A : AH) (hT : TabA A) (n : Nat) (hn : n ≤ 65535) (dr dm rq me : List UInt8) (un at_ : Int) (sus : Bool) (z1 : dr.length ≤ 140737488351232) (z2 : dm.length ≤ 140737488351232) (z3 : rq.length ≤ 140737488351232) (z4 : me.length ≤ 140737488351232) : valA Tryd.prog 3 #[.int .u16 (n : Int), .agg #[.string (bs dr), .string (bs dm), .int .i64 un], .string (bs rq), .string (bs me), .int .i64 at_, .bool sus] A = some (.bool true) := valA_eq (pureA_at (by kernel_rfl) (domLaw_h A hT n hn dr dm rq me un at_ sus z1 z2 z3 z4) (SubA.refl _))
end Go.Proofs.YtoonmogjjddeeaaDoor
