/-
Disputes: the walks of the test of an opening, Open, Step and Expire.
Conditions: none.
-/
import Derived.Test.YtiholbpchhifiaaGreatDoorDsr
namespace Go.Proofs.YtiholbpchhifiaaGreatDoor
open Go.Vm
set_option linter.unusedSimpArgs false
set_option linter.unusedVariables false
set_option maxHeartbeats 4000000
set_option maxRecDepth 20000
theorem vbDso : type_of% (And.intro @slIndexByte_v (And.intro @indexByte_v (And.intro @indexRune_v (And.intro @containsRune_v (And.intro @classOf_v (And.intro @isWordByte_v (And.intro @wordAt_v (And.intro @isName_v (And.intro @possible_v (And.intro @days_v (And.intro @due_v (And.intro @evName_v (And.intro @evCheck_v (And.intro @dNext_v (And.intro @recId_v (And.intro @moneyCur_v (And.intro @inTotal_v (And.intro @exCard_v (@recCheck_v))))))))))))))))))) := And.intro @slIndexByte_v (And.intro @indexByte_v (And.intro @indexRune_v (And.intro @containsRune_v (And.intro @classOf_v (And.intro @isWordByte_v (And.intro @wordAt_v (And.intro @isName_v (And.intro @possible_v (And.intro @days_v (And.intro @due_v (And.intro @evName_v (And.intro @evCheck_v (And.intro @dNext_v (And.intro @recId_v (And.intro @moneyCur_v (And.intro @inTotal_v (And.intro @exCard_v (@recCheck_v))))))))))))))))))
theorem id_all (l : Txt) (h1 : 1 ≤ l.length) (h2 : l.length ≤ 16) : idF (bs l) = l.all fun c => idC c.toNat := by
  unfold idF
  rw [bs_size, bs_list, decide_eq_true h1, decide_eq_true h2, Bool.true_and, Bool.true_and]
  induction l with
  | nil => rfl
  | cons c l ih => rfl
theorem dspId_h (l : Txt) : CallA Tryz.prog 18 #[.string (bs l)] [] (fun u_ _ => u_ = .bool (idF (bs l))) := by
  refine callA_of_denA ⟨Tryz.prog, 18, Tryz.f18, 55, [0, 2, 3, 4, 5], [], [], _⟩ (args := [_]) Tryz.func18 rfl (by kernel_rfl) Tryz.ntmps18 (by simp) (by kernel_rfl) ?_
  intro ν fr; have nuE := fr.nu
  simp (maxDischargeDepth := 16) only [argE_nil, argE_cons, ↓vmD, vmV, vmStd, Nat.reduceMul, ↓reduceIte, Nat.reduceAdd, Nat.reduceSub, Nat.reduceEqDiff, Nat.reduceLT, Nat.reduceLeDiff, reduceCtorEq, Int.reduceToNat, Int.reduceLT, Int.reduceLE, Int.reduceEq, Int.reduceNeg, Int.reduceBEq, Int.reduceBNe, String.reduceEq, forall_const, ↓vmDA, vmVA, ↓vmQA, vmR, vmRA, ↓vmSA, vmSV, tyS, nuE, SubA.skip, SubA.refl, fr.2, vbDso, bs_size]
  by_cases h1 : (l.length : Int) < 1
  · rw [if_pos (.inl h1)]
    have : ¬ 1 ≤ (bs l).size := by rw [bs_size]; omega
    simp [idF, this]
  by_cases h2 : (16 : Int) < (l.length : Int)
  · rw [if_pos (.inr h2)]
    have : ¬ (bs l).size ≤ 16 := by rw [bs_size]; omega
    simp [idF, this]
  rw [if_neg (by omega), id_all l (by omega) (by omega)]
  obtain ⟨e, k, dn, he, ha, h3, hd⟩ : ∃ (e : Nat) (k dn : List UInt8), e = 0 ∧ l = dn ++ k ∧ dn.length = e ∧ dn.all (fun c => idC c.toNat) = true := ⟨0, l, [], rfl, rfl, rfl, rfl⟩
  rw [show (3, some (Value.int .i64 0)) = (3, some (Value.int .i64 (e : Int))) by rw [he]; rfl]
  clear he nuE fr
  induction k generalizing e dn with
  | nil =>
    obtain ⟨lt, hd2, hle, dc⟩ := at_nil ha h3
    rw [hd2] at hd
    refine LoopA.intro (by kernel_rfl) ?_
    intro ν fr; have nuE := fr.nu
    simp (maxDischargeDepth := 16) only [argE_nil, argE_cons, ↓vmD, vmV, vmStd, Nat.reduceMul, ↓reduceIte, Nat.reduceAdd, Nat.reduceSub, Nat.reduceEqDiff, Nat.reduceLT, Nat.reduceLeDiff, reduceCtorEq, Int.reduceToNat, Int.reduceLT, Int.reduceLE, Int.reduceEq, Int.reduceNeg, Int.reduceBEq, Int.reduceBNe, String.reduceEq, forall_const, ↓vmDA, vmVA, ↓vmQA, vmR, vmRA, ↓vmSA, vmSV, tyS, nuE, SubA.skip, SubA.refl, fr.2, vbDso, bs_size, lt, hd]
  | cons c k ih =>
    obtain ⟨lt, we, hc, hle, dc, ha', h3', hlen⟩ := at_cons ha h3 (by omega)
    refine LoopA.intro (by kernel_rfl) ?_
    intro ν fr; have nuE := fr.nu
    simp (maxDischargeDepth := 16) only [argE_nil, argE_cons, ↓vmD, vmV, vmStd, Nat.reduceMul, ↓reduceIte, Nat.reduceAdd, Nat.reduceSub, Nat.reduceEqDiff, Nat.reduceLT, Nat.reduceLeDiff, reduceCtorEq, Int.reduceToNat, Int.reduceLT, Int.reduceLE, Int.reduceEq, Int.reduceNeg, Int.reduceBEq, Int.reduceBNe, String.reduceEq, forall_const, ↓vmDA, vmVA, ↓vmQA, vmR, vmRA, ↓vmSA, vmSV, tyS, nuE, SubA.skip, SubA.refl, fr.2, vbDso, bs_size, lt, bs_at, hc, we]
    rw [letter_int]
    have hi : idC c.toNat = (letterB c.toNat || (digitB c.toNat || (decide (c.toNat = 95) || decide (c.toNat = 45)))) := by
      simp only [idC]; cases letterB c.toNat <;> cases digitB c.toNat <;> simp <;> omega
    cases hk : idC c.toNat with
    | true =>
      rw [if_neg (by
        rw [hk] at hi
        rintro ⟨⟨⟨q1, q2⟩, q3⟩, q4⟩
        rw [q1] at hi
        have hd0 : digitB c.toNat = false := by simp [digitB]; omega
        rw [hd0] at hi
        simp at hi
        omega)]
      exact LoopA.weak (ih (e + 1) (dn ++ [c]) ha' h3' (by simp [hd, hk])) (by simp only [subE, get_cons, Nat.reduceEqDiff, ↓reduceIte, reduceCtorEq, Nat.reduceAdd, and_self, and_true]) (SubA.refl _)
    | false =>
      rw [hk] at hi
      have hi2 := hi.symm
      simp only [Bool.or_eq_false_iff, decide_eq_false_iff_not] at hi2
      obtain ⟨q1, q2, q3, q4⟩ := hi2
      simp only [digitB, Bool.and_eq_false_iff, decide_eq_false_iff_not] at q2
      rw [if_pos ⟨⟨⟨q1, by omega⟩, by omega⟩, by omega⟩]
      have : l.all (fun c => idC c.toNat) = false := by rw [ha]; simp [hk]
      rw [this]
theorem dspId_v (l : Txt) (A_ : AH) : valA Tryz.prog 18 #[.string (bs l)] A_ = some (.bool (idF (bs l))) := valA_eq (pureA_of (by kernel_rfl) (dspId_h l))
theorem recE_out {r : Rd} (h : recE r = 0) : 1 ≤ r.am ∧ r.am ≤ 999999999999 ∧ 0 ≤ r.da ∧ r.da ≤ 99999 := by
  unfold recE chkRG at h
  split at h
  · cases h
  split at h
  · cases h
  split at h
  · cases h
  split at h
  · rename_i q; exact absurd h q
  split at h
  · cases h
  split at h
  · cases h
  omega
theorem checkD_h (A E : AH) (hA : SubA E A) (db : Nat) (fv : Value) (R : List Rs) (F : List Fo) (hE : DkP E db fv R F) (hF : FdsOk (F.map Fo.d)) (r : Rd) (code : Txt) (amount date : Int) (L : List Itm) (p : Option Addr) (cap : Nat) (hL : StR itC 3 A p L) : CallA Tryz.prog 19 #[.pointer (some ⟨db, 0, none⟩), .agg #[.int .i64 r.kd, .string (bs r.id), .string (bs r.au), .string (bs r.aq), .string (bs r.is), .string (bs r.me), .string (bs r.ca), .int .i64 r.am, .string (bs r.cu), .int .i64 r.da, .int .i64 r.ct, .bool r.fi], .string (bs code), .int .i64 amount, .int .i64 date, .slice p L.length cap] A (fun u_ A_ => u_ = .int .i64 (checkX (R.map Rs.d) (F.map Fo.d) r code amount date L) ∧ SubA A A_) := by
  refine callA_of_denA ⟨Tryz.prog, 19, Tryz.f19, 87, [0, 1, 2, 3, 4, 5, 7, 12, 13, 14, 15, 16, 17], [27, 28], [(11, .q false)], _⟩ (args := [_, _, _, _, _, _]) Tryz.func19 rfl (by kernel_rfl) Tryz.ntmps19 (by simp) (by kernel_rfl) ?_
  intro ν fr; have nuE := fr.nu
  have dsv := fun B hB => disp_w E db fv R F hE hF r.id B hB
  obtain ⟨rp, rcap, pr, es, cl, M, fp, fcap, rfl, hc, l1, l2, hm, hmo, hR, hb, hrc, hr32, hs, hsv⟩ := hE.out
  have la := hA _ _ l1
  have nd := fr.ne (b := db) (by rw [la]; simp)
  have rc : (chkRG r.kd (bs r.id) (bs r.au) (bs r.aq) (bs r.is) (bs r.me) (bs r.ca) r.am (bs r.cu) r.da r.ct) = recE r := rfl
  by_cases h1 : recE r = 0
  rotate_left
  · have hx : checkX (R.map Rs.d) (F.map Fo.d) r code amount date L = recE r := if_pos h1
    simp (maxDischargeDepth := 16) only [argE_nil, argE_cons, ↓vmD, vmV, vmStd, Nat.reduceMul, ↓reduceIte, Nat.reduceAdd, Nat.reduceSub, Nat.reduceEqDiff, Nat.reduceLT, Nat.reduceLeDiff, reduceCtorEq, Int.reduceToNat, Int.reduceLT, Int.reduceLE, Int.reduceEq, Int.reduceNeg, Int.reduceBEq, Int.reduceBNe, String.reduceEq, forall_const, ↓vmDA, vmVA, ↓vmQA, vmR, vmRA, ↓vmSA, vmSV, tyS, nuE, SubA.skip, SubA.refl, fr.2, vbDso, dspId_v, rc, h1, hx]
  by_cases h2 : r.kd = 1
  rotate_left
  · have hx : checkX (R.map Rs.d) (F.map Fo.d) r code amount date L = 4 := by unfold checkX; rw [if_neg (by simpa using h1), if_pos h2]
    simp (maxDischargeDepth := 16) only [argE_nil, argE_cons, ↓vmD, vmV, vmStd, Nat.reduceMul, ↓reduceIte, Nat.reduceAdd, Nat.reduceSub, Nat.reduceEqDiff, Nat.reduceLT, Nat.reduceLeDiff, reduceCtorEq, Int.reduceToNat, Int.reduceLT, Int.reduceLE, Int.reduceEq, Int.reduceNeg, Int.reduceBEq, Int.reduceBNe, String.reduceEq, forall_const, ↓vmDA, vmVA, ↓vmQA, vmR, vmRA, ↓vmSA, vmSV, tyS, nuE, SubA.skip, SubA.refl, fr.2, vbDso, dspId_v, rc, h1, h2, hx]
  have h2' := eq_true h2
  simp (maxDischargeDepth := 16) only [argE_nil, argE_cons, ↓vmD, vmV, vmStd, Nat.reduceMul, ↓reduceIte, Nat.reduceAdd, Nat.reduceSub, Nat.reduceEqDiff, Nat.reduceLT, Nat.reduceLeDiff, reduceCtorEq, Int.reduceToNat, Int.reduceLT, Int.reduceLE, Int.reduceEq, Int.reduceNeg, Int.reduceBEq, Int.reduceBNe, String.reduceEq, forall_const, ↓vmDA, vmVA, ↓vmQA, vmR, vmRA, ↓vmSA, vmSV, tyS, nuE, SubA.skip, SubA.refl, fr.2, vbDso, dspId_v, rc, h1, h2', la, nd]
  have f0 := fr.2 0
  have nd0 := nd 0
  have dst_ : True := (by simp [nuE]); generalize ν 0 = b0 at dst_  f0 nd0 ⊢
  clear nuE fr nd dst_
  refine CallA.newX (find_n A R rp rcap code (hR.mono hA) hb (by omega)) (SubA.fresh f0 (SubA.refl _)) ?_
  rintro v B ⟨w, rfl, hrd, hin⟩ hd
  have d1 := Dis.headn hd
  have dA := Dis.tailn hd f0
  refine ⟨_, cons_out d1, ?_⟩
  intro ν fr; have nuE := And.intro (fr.mem (b := b0) (by simp)) (fr.nu)
  have nd := fr.ne (b := db) (by simp only [Vm.look, nd0, if_false]; rw [dA.right _ _ la]; simp)
  have sA : ∀ o1 o2, SubA A ((ν 0, o2) :: (b0, o1) :: (B ++ A)) := fun o1 o2 => SubA.skip ((SubA.skip f0 dA.right).none (fr.2 0)) (SubA.skip f0 dA.right)
  have dsv' := fun o1 o2 => dsv ((ν 0, o2) :: (b0, o1) :: (B ++ A)) (SubA.trans hA (sA o1 o2))
  have hx0 : checkX (R.map Rs.d) (F.map Fo.d) r code amount date L = if (findR code (R.map Rs.d)).isSome = false then 6
  else if amount < 1 ∨ r.am < amount then 4 else if r.am < amount + dspF r.id (F.map Fo.d) then 26
  else if date < 0 ∨ 99999 < date ∨ date < r.da then 14
  else if (dueF w.d 0 r.da).2 = 0 ∧ (dueF w.d 0 r.da).1 < date then 24
  else if suffF L (needsF w.d 1) = false then 25 else 0 := by
    unfold checkX; rw [if_neg (by simpa using h1), if_neg (by simpa using h2), ← hrd]
  cases h3 : (findR code (R.map Rs.d)).isSome with
  | false =>
    rw [if_pos h3] at hx0
    simp (maxDischargeDepth := 16) only [argE_nil, argE_cons, ↓vmD, vmV, vmStd, Nat.reduceMul, ↓reduceIte, Nat.reduceAdd, Nat.reduceSub, Nat.reduceEqDiff, Nat.reduceLT, Nat.reduceLeDiff, reduceCtorEq, Int.reduceToNat, Int.reduceLT, Int.reduceLE, Int.reduceEq, Int.reduceNeg, Int.reduceBEq, Int.reduceBNe, String.reduceEq, forall_const, ↓vmDA, vmVA, ↓vmQA, vmR, vmRA, ↓vmSA, vmSV, tyS, nuE, SubA.skip, SubA.refl, fr.2, vbDso, dspId_v, rsC, h3, hx0]
    exact sA _ _
  | true =>
  rw [if_neg (by simp [h3])] at hx0
  by_cases k1 : amount < 1
  · rw [if_pos (.inl k1)] at hx0
    simp (maxDischargeDepth := 16) only [argE_nil, argE_cons, ↓vmD, vmV, vmStd, Nat.reduceMul, ↓reduceIte, Nat.reduceAdd, Nat.reduceSub, Nat.reduceEqDiff, Nat.reduceLT, Nat.reduceLeDiff, reduceCtorEq, Int.reduceToNat, Int.reduceLT, Int.reduceLE, Int.reduceEq, Int.reduceNeg, Int.reduceBEq, Int.reduceBNe, String.reduceEq, forall_const, ↓vmDA, vmVA, ↓vmQA, vmR, vmRA, ↓vmSA, vmSV, tyS, nuE, SubA.skip, SubA.refl, fr.2, vbDso, dspId_v, rsC, h3, eq_true k1, hx0]
    exact sA _ _
  by_cases k2 : r.am < amount
  · rw [if_pos (.inr k2)] at hx0
    simp (maxDischargeDepth := 16) only [argE_nil, argE_cons, ↓vmD, vmV, vmStd, Nat.reduceMul, ↓reduceIte, Nat.reduceAdd, Nat.reduceSub, Nat.reduceEqDiff, Nat.reduceLT, Nat.reduceLeDiff, reduceCtorEq, Int.reduceToNat, Int.reduceLT, Int.reduceLE, Int.reduceEq, Int.reduceNeg, Int.reduceBEq, Int.reduceBNe, String.reduceEq, forall_const, ↓vmDA, vmVA, ↓vmQA, vmR, vmRA, ↓vmSA, vmSV, tyS, nuE, SubA.skip, SubA.refl, fr.2, vbDso, dspId_v, rsC, h3, eq_false k1, eq_true k2, hx0]
    exact sA _ _
  rw [if_neg (by omega)] at hx0
  obtain ⟨m1, m2, m3, m4⟩ := recE_out h1
  have b1 := dspF_le r.id _ hF.1
  have hlen := hF.2.1
  have wr : IntKind.i64.wrap (amount + dspF r.id (F.map Fo.d)) = amount + dspF r.id (F.map Fo.d) := w_i64 (by omega) (by omega)
  by_cases k3 : r.am < amount + dspF r.id (F.map Fo.d)
  · rw [if_pos k3] at hx0
    simp (maxDischargeDepth := 16) only [argE_nil, argE_cons, ↓vmD, vmV, vmStd, Nat.reduceMul, ↓reduceIte, Nat.reduceAdd, Nat.reduceSub, Nat.reduceEqDiff, Nat.reduceLT, Nat.reduceLeDiff, reduceCtorEq, Int.reduceToNat, Int.reduceLT, Int.reduceLE, Int.reduceEq, Int.reduceNeg, Int.reduceBEq, Int.reduceBNe, String.reduceEq, forall_const, ↓vmDA, vmVA, ↓vmQA, vmR, vmRA, ↓vmSA, vmSV, tyS, nuE, SubA.skip, SubA.refl, fr.2, vbDso, dspId_v, rsC, h3, eq_false k1, eq_false k2, dsv', wr, eq_true k3, hx0]
    exact sA _ _
  rw [if_neg k3] at hx0
  by_cases k4 : date < 0
  · rw [if_pos (.inl k4)] at hx0
    simp (maxDischargeDepth := 16) only [argE_nil, argE_cons, ↓vmD, vmV, vmStd, Nat.reduceMul, ↓reduceIte, Nat.reduceAdd, Nat.reduceSub, Nat.reduceEqDiff, Nat.reduceLT, Nat.reduceLeDiff, reduceCtorEq, Int.reduceToNat, Int.reduceLT, Int.reduceLE, Int.reduceEq, Int.reduceNeg, Int.reduceBEq, Int.reduceBNe, String.reduceEq, forall_const, ↓vmDA, vmVA, ↓vmQA, vmR, vmRA, ↓vmSA, vmSV, tyS, nuE, SubA.skip, SubA.refl, fr.2, vbDso, dspId_v, rsC, h3, eq_false k1, eq_false k2, dsv', wr, eq_false k3, eq_true k4, hx0]
    exact sA _ _
  by_cases k5 : 99999 < date
  · rw [if_pos (.inr (.inl k5))] at hx0
    simp (maxDischargeDepth := 16) only [argE_nil, argE_cons, ↓vmD, vmV, vmStd, Nat.reduceMul, ↓reduceIte, Nat.reduceAdd, Nat.reduceSub, Nat.reduceEqDiff, Nat.reduceLT, Nat.reduceLeDiff, reduceCtorEq, Int.reduceToNat, Int.reduceLT, Int.reduceLE, Int.reduceEq, Int.reduceNeg, Int.reduceBEq, Int.reduceBNe, String.reduceEq, forall_const, ↓vmDA, vmVA, ↓vmQA, vmR, vmRA, ↓vmSA, vmSV, tyS, nuE, SubA.skip, SubA.refl, fr.2, vbDso, dspId_v, rsC, h3, eq_false k1, eq_false k2, dsv', wr, eq_false k3, eq_false k4, eq_true k5, hx0]
    exact sA _ _
  by_cases k6 : date < r.da
  · rw [if_pos (.inr (.inr k6))] at hx0
    simp (maxDischargeDepth := 16) only [argE_nil, argE_cons, ↓vmD, vmV, vmStd, Nat.reduceMul, ↓reduceIte, Nat.reduceAdd, Nat.reduceSub, Nat.reduceEqDiff, Nat.reduceLT, Nat.reduceLeDiff, reduceCtorEq, Int.reduceToNat, Int.reduceLT, Int.reduceLE, Int.reduceEq, Int.reduceNeg, Int.reduceBEq, Int.reduceBNe, String.reduceEq, forall_const, ↓vmDA, vmVA, ↓vmQA, vmR, vmRA, ↓vmSA, vmSV, tyS, nuE, SubA.skip, SubA.refl, fr.2, vbDso, dspId_v, rsC, h3, eq_false k1, eq_false k2, dsv', wr, eq_false k3, eq_false k4, eq_false k5, eq_true k6, hx0]
    exact sA _ _
  rw [if_neg (by omega)] at hx0
  by_cases k7 : (dueF w.d 0 r.da).2 = 0 ∧ (dueF w.d 0 r.da).1 < date
  · rw [if_pos k7] at hx0
    simp (maxDischargeDepth := 16) only [argE_nil, argE_cons, ↓vmD, vmV, vmStd, Nat.reduceMul, ↓reduceIte, Nat.reduceAdd, Nat.reduceSub, Nat.reduceEqDiff, Nat.reduceLT, Nat.reduceLeDiff, reduceCtorEq, Int.reduceToNat, Int.reduceLT, Int.reduceLE, Int.reduceEq, Int.reduceNeg, Int.reduceBEq, Int.reduceBNe, String.reduceEq, forall_const, ↓vmDA, vmVA, ↓vmQA, vmR, vmRA, ↓vmSA, vmSV, tyS, nuE, SubA.skip, SubA.refl, fr.2, vbDso, dspId_v, rsC, h3, eq_false k1, eq_false k2, dsv', wr, eq_false k3, eq_false k4, eq_false k5, eq_false k6, eq_true k7.1, eq_true k7.2, hx0]
    exact sA _ _
  rw [if_neg k7] at hx0
  simp (maxDischargeDepth := 16) only [argE_nil, argE_cons, ↓vmD, vmV, vmStd, Nat.reduceMul, ↓reduceIte, Nat.reduceAdd, Nat.reduceSub, Nat.reduceEqDiff, Nat.reduceLT, Nat.reduceLeDiff, reduceCtorEq, Int.reduceToNat, Int.reduceLT, Int.reduceLE, Int.reduceEq, Int.reduceNeg, Int.reduceBEq, Int.reduceBNe, String.reduceEq, forall_const, ↓vmDA, vmVA, ↓vmQA, vmR, vmRA, ↓vmSA, vmSV, tyS, nuE, SubA.skip, SubA.refl, fr.2, vbDso, dspId_v, rsC, h3, eq_false k1, eq_false k2, dsv', wr, eq_false k3, eq_false k4, eq_false k5, eq_false k6, hx0]
  rw [if_neg k7]
  have hw : w.d.cl.length ≤ 8000000000000 ∧ w.d.df.length ≤ 8000000000000 := by
    cases hf : findR code (R.map Rs.d) with
    | none => rw [hf] at h3; cases h3
    | some y =>
      rw [hf] at hrd
      obtain ⟨hy, _⟩ := findR_some hf
      obtain ⟨z, hz, rfl⟩ := List.mem_map.1 hy
      rw [hrd]
      exact hb z hz
  have sBA : ∀ o1 o2, SubA (B ++ A) ((ν 0, o2) :: (b0, o1) :: (B ++ A)) := fun o1 o2 => SubA.skip (look_app_none ((SubA.skip d1 (SubA.left B A)).none (fr.2 0)) ((SubA.skip f0 dA.right).none (fr.2 0))) (SubA.skip (look_app_none d1 f0) (SubA.refl _))
  · refine CallA.newX (needs_h (B ++ A) w 1 hin hw) (sBA _ _) ?_
    intro v2 B2 ho2 hd2
    obtain ⟨q2, cap2, rfl, hq2⟩ := own_tx ho2
    have dB2 : Dis B2 A := Dis.subr hd2 (sA _ _)
    refine ⟨B2 ++ A, SubA.app (sA _ _), ?_⟩
    intro ν fr; have nuE := fr.nu
    have sv := suff_w (B2 ++ A) L p cap (hL.mono dB2.right) (needsF w.d 1) q2 cap2 (hq2.mono (SubA.left B2 A)) (B2 ++ A) (SubA.refl _)
    cases h4 : suffF L (needsF w.d 1) with
    | false =>
      rw [h4] at sv
      simp (maxDischargeDepth := 16) only [argE_nil, argE_cons, ↓vmD, vmV, vmStd, Nat.reduceMul, ↓reduceIte, Nat.reduceAdd, Nat.reduceSub, Nat.reduceEqDiff, Nat.reduceLT, Nat.reduceLeDiff, reduceCtorEq, Int.reduceToNat, Int.reduceLT, Int.reduceLE, Int.reduceEq, Int.reduceNeg, Int.reduceBEq, Int.reduceBNe, String.reduceEq, forall_const, ↓vmDA, vmVA, ↓vmQA, vmR, vmRA, ↓vmSA, vmSV, tyS, nuE, SubA.skip, SubA.refl, fr.2, vbDso, dspId_v, sv]
      exact ⟨by rw [hx0, h4]; rfl, dB2.right⟩
    | true =>
      rw [h4] at sv
      simp (maxDischargeDepth := 16) only [argE_nil, argE_cons, ↓vmD, vmV, vmStd, Nat.reduceMul, ↓reduceIte, Nat.reduceAdd, Nat.reduceSub, Nat.reduceEqDiff, Nat.reduceLT, Nat.reduceLeDiff, reduceCtorEq, Int.reduceToNat, Int.reduceLT, Int.reduceLE, Int.reduceEq, Int.reduceNeg, Int.reduceBEq, Int.reduceBNe, String.reduceEq, forall_const, ↓vmDA, vmVA, ↓vmQA, vmR, vmRA, ↓vmSA, vmSV, tyS, nuE, SubA.skip, SubA.refl, fr.2, vbDso, dspId_v, sv]
      exact ⟨by rw [hx0, h4]; rfl, dB2.right⟩
theorem checkD_w (A E : AH) (hA : SubA E A) (db : Nat) (fv : Value) (R : List Rs) (F : List Fo) (hE : DkP E db fv R F) (hF : FdsOk (F.map Fo.d)) (r : Rd) (code : Txt) (amount date : Int) (L : List Itm) (p : Option Addr) (cap : Nat) (hL : StR itC 3 A p L) (B_ : AH) (hB_ : SubA A B_) : valA Tryz.prog 19 #[.pointer (some ⟨db, 0, none⟩), .agg #[.int .i64 r.kd, .string (bs r.id), .string (bs r.au), .string (bs r.aq), .string (bs r.is), .string (bs r.me), .string (bs r.ca), .int .i64 r.am, .string (bs r.cu), .int .i64 r.da, .int .i64 r.ct, .bool r.fi], .string (bs code), .int .i64 amount, .int .i64 date, .slice p L.length cap] B_ = some (.int .i64 (checkX (R.map Rs.d) (F.map Fo.d) r code amount date L)) := valA_eq (pureA_at (by kernel_rfl) (checkD_h A E hA db fv R F hE hF r code amount date L p cap hL) hB_)
theorem checkD_v (A E : AH) (hA : SubA E A) (db : Nat) (fv : Value) (R : List Rs) (F : List Fo) (hE : DkP E db fv R F) (hF : FdsOk (F.map Fo.d)) (r : Rd) (code : Txt) (amount date : Int) (L : List Itm) (p : Option Addr) (cap : Nat) (hL : StR itC 3 A p L) : valA Tryz.prog 19 #[.pointer (some ⟨db, 0, none⟩), .agg #[.int .i64 r.kd, .string (bs r.id), .string (bs r.au), .string (bs r.aq), .string (bs r.is), .string (bs r.me), .string (bs r.ca), .int .i64 r.am, .string (bs r.cu), .int .i64 r.da, .int .i64 r.ct, .bool r.fi], .string (bs code), .int .i64 amount, .int .i64 date, .slice p L.length cap] A = some (.int .i64 (checkX (R.map Rs.d) (F.map Fo.d) r code amount date L)) := valA_eq (pureA_at (by kernel_rfl) (checkD_h A E hA db fv R F hE hF r code amount date L p cap hL) (SubA.refl _))
end Go.Proofs.YtiholbpchhifiaaGreatDoor
