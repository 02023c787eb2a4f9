/-
Reasons: the reference.
Conditions: none.
-/
import Derived.Test.YtkkpmcomloekoaaGreatRsk
namespace Go.Proofs.YtkkpmcomloekoaaGreat
open Go.Vm
set_option linter.unusedSimpArgs false
set_option linter.unusedVariables false
set_option maxHeartbeats 2000000
set_option maxRecDepth 20000
theorem vbRfx : type_of% (And.intro @slIndexByte_v (And.intro @indexByte_v (And.intro @indexRune_v (And.intro @containsRune_v (And.intro @classOf_v (And.intro @isWordByte_v (And.intro @letter_v (And.intro @digit_v (And.intro @wordAt_v (And.intro @rword_v (And.intro @isName_v (And.intro @risName_v (And.intro @possible_v (And.intro @days_v (@due_v))))))))))))))) := And.intro @slIndexByte_v (And.intro @indexByte_v (And.intro @indexRune_v (And.intro @containsRune_v (And.intro @classOf_v (And.intro @isWordByte_v (And.intro @letter_v (And.intro @digit_v (And.intro @wordAt_v (And.intro @rword_v (And.intro @isName_v (And.intro @risName_v (And.intro @possible_v (And.intro @days_v (@due_v))))))))))))))
theorem pbRfx : type_of% (And.intro @slIndexByte_p (And.intro @indexByte_p (And.intro @indexRune_p (And.intro @containsRune_p (And.intro @classOf_p (And.intro @isWordByte_p (And.intro @letter_p (And.intro @digit_p (And.intro @wordAt_p (And.intro @rword_p (And.intro @isName_p (@risName_p)))))))))))) := And.intro @slIndexByte_p (And.intro @indexByte_p (And.intro @indexRune_p (And.intro @containsRune_p (And.intro @classOf_p (And.intro @isWordByte_p (And.intro @letter_p (And.intro @digit_p (And.intro @wordAt_p (And.intro @rword_p (And.intro @isName_p (@risName_p)))))))))))
theorem rkind_h (s : Txt) : CallA Tryz.prog 70 #[.string (bs s)] [] (fun u_ _ => u_ = .bool (kindF s)) := by
  refine callA_of_denA ⟨Tryz.prog, 70, Tryz.f70, 13, [0, 2], [], [], _⟩ (args := [_]) Tryz.func70 rfl (by kernel_rfl) Tryz.ntmps70 (by simp) (by kernel_rfl) ?_
  intro ν fr; have nuE := fr.nu
  have t1 : ((bs s).toList = [99, 108, 97, 105, 109]) = (s = claimT) := by rw [bs_list]; rfl
  have t2 : ((bs s).toList = [100, 101, 102, 101, 110, 99, 101]) = (s = defenceT) := by rw [bs_list]; rfl
  simp (maxDischargeDepth := 16) only [argE_nil, argE_cons, ↓vmD, vmV, vmStd, Nat.reduceMul, ↓reduceIte, Nat.reduceAdd, Nat.reduceSub, Nat.reduceEqDiff, Nat.reduceLT, Nat.reduceLeDiff, reduceCtorEq, Int.reduceToNat, Int.reduceLT, Int.reduceLE, Int.reduceEq, Int.reduceNeg, Int.reduceBEq, Int.reduceBNe, String.reduceEq, forall_const, ↓vmDA, vmVA, ↓vmQA, vmR, vmRA, ↓vmSA, vmSV, tyS, nuE, SubA.skip, SubA.refl, fr.2, vbRfx, t1, t2]
  have q1 : (⟨#[99, 108, 97, 105, 109]⟩ : ByteArray).toList = claimT := by kernel_rfl
  have q2 : (⟨#[100, 101, 102, 101, 110, 99, 101]⟩ : ByteArray).toList = defenceT := by kernel_rfl
  rw [bs_list, q1, q2]
  unfold kindF
  rw [Bool.and_assoc]
  have e1 : (s == claimT) = decide (s = claimT) := by by_cases h : s = claimT <;> simp [h]
  have e2 : (s == defenceT) = decide (s = defenceT) := by by_cases h : s = defenceT <;> simp [h]
  rw [e1, e2]
theorem rkind_v (s : Txt) (A_ : AH) : valA Tryz.prog 70 #[.string (bs s)] A_ = some (.bool (kindF s)) := valA_eq (pureA_of (by kernel_rfl) (rkind_h s))
theorem rhas_h (A : AH) (T : List Txt) (p : Option Addr) (cap : Nat) (s : Txt) (hT : TxR A p cap T) : CallA Tryz.prog 71 #[.slice p T.length cap, .string (bs s)] A (fun u_ A_ => u_ = .bool (decide (s ∈ T)) ∧ SubA A A_) := by
  refine callA_of_denA ⟨Tryz.prog, 71, Tryz.f71, 18, [0, 1, 4, 5], [], [], _⟩ (args := [_, _]) Tryz.func71 rfl (by kernel_rfl) Tryz.ntmps71 (by simp) (by kernel_rfl) ?_
  intro ν fr; have nuE := fr.nu
  simp (maxDischargeDepth := 16) only [argE_nil, argE_cons, ↓vmD, vmV, vmStd, Nat.reduceMul, ↓reduceIte, Nat.reduceAdd, Nat.reduceSub, Nat.reduceEqDiff, Nat.reduceLT, Nat.reduceLeDiff, reduceCtorEq, Int.reduceToNat, Int.reduceLT, Int.reduceLE, Int.reduceEq, Int.reduceNeg, Int.reduceBEq, Int.reduceBNe, String.reduceEq, forall_const, ↓vmDA, vmVA, ↓vmQA, vmR, vmRA, ↓vmSA, vmSV, tyS, nuE, SubA.skip, SubA.refl, fr.2, vbRfx, rkind_v]
  have hcap := hT.2
  obtain ⟨e, l, he, hd, hle, hx⟩ : ∃ (e : Nat) (l : List Txt), e = 0 ∧ l = T.drop e ∧ e ≤ T.length ∧ decide (s ∈ T) = decide (s ∈ l) := ⟨0, T, rfl, rfl, by omega, rfl⟩
  rw [show (5, some (Value.int .i64 0)) = (5, some (Value.int .i64 (e : Int))) by rw [he]; rfl]
  clear he nuE fr
  induction l generalizing e with
  | nil =>
    obtain ⟨hn1, hn2⟩ := drop_nil hd hle
    have lt : ((e : Int) < (T.length : Int)) = False := eq_false (by omega)
    refine LoopA.intro (by kernel_rfl) ?_
    intro ν fr; have nuE := fr.nu
    simp (maxDischargeDepth := 16) only [argE_nil, argE_cons, ↓vmD, vmV, vmStd, Nat.reduceMul, ↓reduceIte, Nat.reduceAdd, Nat.reduceSub, Nat.reduceEqDiff, Nat.reduceLT, Nat.reduceLeDiff, reduceCtorEq, Int.reduceToNat, Int.reduceLT, Int.reduceLE, Int.reduceEq, Int.reduceNeg, Int.reduceBEq, Int.reduceBNe, String.reduceEq, forall_const, ↓vmDA, vmVA, ↓vmQA, vmR, vmRA, ↓vmSA, vmSV, tyS, nuE, SubA.skip, SubA.refl, fr.2, vbRfx, rkind_v, lt]
    rw [hx]; rfl
  | cons x l ih =>
    obtain ⟨ha, hlt, hd', htk⟩ := drop_some hd
    have lt : ((e : Int) < (T.length : Int)) = True := eq_true (by omega)
    have li : ((e : Int) < 0) = False := eq_false (by omega)
    have we : IntKind.i64.wrap ((e : Int) + 1) = ((e + 1 : Nat) : Int) := by rw [w_i64 (by omega) (by omega)]; omega
    obtain ⟨bk, off, cs, ty, fr0, hp0, hbk, hcr, hcc⟩ := hT.1.at ha
    subst hp0
    have hc0 : cs[off + e * 1]? = some (.string (bs x)) := hcc 0 _ rfl
    have t1 : ((bs x).toList = (bs s).toList) = (x = s) := by rw [bs_list, bs_list]
    refine LoopA.intro (by kernel_rfl) ?_
    intro ν fr; have nuE := fr.nu
    by_cases hs : x = s
    · have hs' := eq_true hs
      simp (maxDischargeDepth := 16) only [argE_nil, argE_cons, ↓vmD, vmV, vmStd, Nat.reduceMul, ↓reduceIte, Nat.reduceAdd, Nat.reduceSub, Nat.reduceEqDiff, Nat.reduceLT, Nat.reduceLeDiff, reduceCtorEq, Int.reduceToNat, Int.reduceLT, Int.reduceLE, Int.reduceEq, Int.reduceNeg, Int.reduceBEq, Int.reduceBNe, String.reduceEq, forall_const, ↓vmDA, vmVA, ↓vmQA, vmR, vmRA, ↓vmSA, vmSV, tyS, nuE, SubA.skip, SubA.refl, fr.2, vbRfx, rkind_v, lt, li, hbk, hc0, t1, hs', we]
      subst hs
      rw [hx]; simp
    · have hs' := eq_false hs
      simp (maxDischargeDepth := 16) only [argE_nil, argE_cons, ↓vmD, vmV, vmStd, Nat.reduceMul, ↓reduceIte, Nat.reduceAdd, Nat.reduceSub, Nat.reduceEqDiff, Nat.reduceLT, Nat.reduceLeDiff, reduceCtorEq, Int.reduceToNat, Int.reduceLT, Int.reduceLE, Int.reduceEq, Int.reduceNeg, Int.reduceBEq, Int.reduceBNe, String.reduceEq, forall_const, ↓vmDA, vmVA, ↓vmQA, vmR, vmRA, ↓vmSA, vmSV, tyS, nuE, SubA.skip, SubA.refl, fr.2, vbRfx, rkind_v, lt, li, hbk, hc0, t1, hs', we]
      exact LoopA.weak (ih (e + 1) hd' (by omega) (by rw [hx]; have : ¬ s = x := fun h => hs h.symm; simp [this])) (by simp only [subE, get_cons, Nat.reduceEqDiff, ↓reduceIte, reduceCtorEq, Nat.reduceAdd, and_self, and_true]) (SubA.refl _)
theorem rhas_w (A : AH) (T : List Txt) (p : Option Addr) (cap : Nat) (s : Txt) (hT : TxR A p cap T) (B_ : AH) (hB_ : SubA A B_) : valA Tryz.prog 71 #[.slice p T.length cap, .string (bs s)] B_ = some (.bool (decide (s ∈ T))) := valA_eq (pureA_at (by kernel_rfl) (rhas_h A T p cap s hT) hB_)
theorem rhas_v (A : AH) (T : List Txt) (p : Option Addr) (cap : Nat) (s : Txt) (hT : TxR A p cap T) : valA Tryz.prog 71 #[.slice p T.length cap, .string (bs s)] A = some (.bool (decide (s ∈ T))) := valA_eq (pureA_at (by kernel_rfl) (rhas_h A T p cap s hT) (SubA.refl _))
theorem rkinds_h (A : AH) (T : List Txt) (p : Option Addr) (cap : Nat) (hT : TxR A p cap T) : CallA Tryz.prog 55 #[.slice p T.length cap] A (fun u_ A_ => u_ = .int .i64 (kindsE T) ∧ SubA A A_) := by
  refine callA_of_denA ⟨Tryz.prog, 55, Tryz.f55, 27, [0, 2, 3], [], [(8, .q false)], _⟩ (args := [_]) Tryz.func55 rfl (by kernel_rfl) Tryz.ntmps55 (by simp) (by kernel_rfl) ?_
  intro ν fr; have nuE := fr.nu
  have hcap := hT.2
  by_cases h8 : 8 < T.length
  · have h8' : ((8 : Int) < (T.length : Int)) = True := eq_true (by omega)
    have hk : kindsE T = 3 := if_pos h8
    simp (maxDischargeDepth := 16) only [argE_nil, argE_cons, ↓vmD, vmV, vmStd, Nat.reduceMul, ↓reduceIte, Nat.reduceAdd, Nat.reduceSub, Nat.reduceEqDiff, Nat.reduceLT, Nat.reduceLeDiff, reduceCtorEq, Int.reduceToNat, Int.reduceLT, Int.reduceLE, Int.reduceEq, Int.reduceNeg, Int.reduceBEq, Int.reduceBNe, String.reduceEq, forall_const, ↓vmDA, vmVA, ↓vmQA, vmR, vmRA, ↓vmSA, vmSV, tyS, nuE, SubA.skip, SubA.refl, fr.2, vbRfx, rkind_v, h8', hk]
  have h8' : ((8 : Int) < (T.length : Int)) = False := eq_false (by omega)
  simp (maxDischargeDepth := 16) only [argE_nil, argE_cons, ↓vmD, vmV, vmStd, Nat.reduceMul, ↓reduceIte, Nat.reduceAdd, Nat.reduceSub, Nat.reduceEqDiff, Nat.reduceLT, Nat.reduceLeDiff, reduceCtorEq, Int.reduceToNat, Int.reduceLT, Int.reduceLE, Int.reduceEq, Int.reduceNeg, Int.reduceBEq, Int.reduceBNe, String.reduceEq, forall_const, ↓vmDA, vmVA, ↓vmQA, vmR, vmRA, ↓vmSA, vmSV, tyS, nuE, SubA.skip, SubA.refl, fr.2, vbRfx, rkind_v, h8']
  obtain ⟨e, l, he, hd, hle, hx⟩ : ∃ (e : Nat) (l : List Txt), e = 0 ∧ l = T.drop e ∧ e ≤ T.length ∧ kindsE T = kindsG (T.take e) l := ⟨0, T, rfl, rfl, by omega, if_neg h8⟩
  rw [show (3, some (Value.int .i64 0)) = (3, some (Value.int .i64 (e : Int))) by rw [he]; rfl]
  clear he nuE fr
  induction l generalizing e with
  | nil =>
    obtain ⟨hn1, hn2⟩ := drop_nil hd hle
    have lt : ((e : Int) < (T.length : Int)) = False := eq_false (by omega)
    refine LoopA.intro (by kernel_rfl) ?_
    intro ν fr; have nuE := fr.nu
    simp (maxDischargeDepth := 16) only [argE_nil, argE_cons, ↓vmD, vmV, vmStd, Nat.reduceMul, ↓reduceIte, Nat.reduceAdd, Nat.reduceSub, Nat.reduceEqDiff, Nat.reduceLT, Nat.reduceLeDiff, reduceCtorEq, Int.reduceToNat, Int.reduceLT, Int.reduceLE, Int.reduceEq, Int.reduceNeg, Int.reduceBEq, Int.reduceBNe, String.reduceEq, forall_const, ↓vmDA, vmVA, ↓vmQA, vmR, vmRA, ↓vmSA, vmSV, tyS, nuE, SubA.skip, SubA.refl, fr.2, vbRfx, rkind_v, lt]
    rw [hx]; rfl
  | cons x l ih =>
    obtain ⟨ha, hlt, hd', htk⟩ := drop_some hd
    have lt : ((e : Int) < (T.length : Int)) = True := eq_true (by omega)
    have li : ((e : Int) < 0) = False := eq_false (by omega)
    have we : IntKind.i64.wrap ((e : Int) + 1) = ((e + 1 : Nat) : Int) := by rw [w_i64 (by omega) (by omega)]; omega
    obtain ⟨bk, off, cs, ty, fr0, hp0, hbk, hcr, hcc⟩ := hT.1.at ha
    subst hp0
    have hc0 : cs[off + e * 1]? = some (.string (bs x)) := hcc 0 _ rfl
    have hcl : (e : Int) ≤ (cap : Int) := by omega
    have htl : (T.take e).length = e := by rw [List.length_take]; omega
    have i1 := rhas_w A (T.take e) (some ⟨bk, off, none⟩) cap x ⟨StR.take hT.1 e, by rw [List.length_take]; omega, hT.2.2⟩ A (SubA.refl A)
    rw [htl] at i1
    refine LoopA.intro (by kernel_rfl) ?_
    intro ν fr; have nuE := fr.nu
    simp (maxDischargeDepth := 16) only [argE_nil, argE_cons, ↓vmD, vmV, vmStd, Nat.reduceMul, ↓reduceIte, Nat.reduceAdd, Nat.reduceSub, Nat.reduceEqDiff, Nat.reduceLT, Nat.reduceLeDiff, reduceCtorEq, Int.reduceToNat, Int.reduceLT, Int.reduceLE, Int.reduceEq, Int.reduceNeg, Int.reduceBEq, Int.reduceBNe, String.reduceEq, forall_const, ↓vmDA, vmVA, ↓vmQA, vmR, vmRA, ↓vmSA, vmSV, tyS, nuE, SubA.skip, SubA.refl, fr.2, vbRfx, rkind_v, lt, li, hbk, hc0, we, hcl, i1, ite_self, Nat.sub_zero]
    cases h3 : kindF x with
    | false => rw [if_pos rfl, hx]; simp [kindsG, h3]
    | true =>
      rw [if_neg (by simp)]
      by_cases h4 : x ∈ T.take e
      · rw [if_pos h4, hx]; simp [kindsG, h3, h4]
      · rw [if_neg h4]
        exact LoopA.weak (ih (e + 1) hd' (by omega) (by rw [hx, htk]; simp [kindsG, h3, h4])) (by simp only [subE, get_cons, Nat.reduceEqDiff, ↓reduceIte, reduceCtorEq, Nat.reduceAdd, and_self, and_true]) (SubA.refl _)
theorem rkinds_w (A : AH) (T : List Txt) (p : Option Addr) (cap : Nat) (hT : TxR A p cap T) (B_ : AH) (hB_ : SubA A B_) : valA Tryz.prog 55 #[.slice p T.length cap] B_ = some (.int .i64 (kindsE T)) := valA_eq (pureA_at (by kernel_rfl) (rkinds_h A T p cap hT) hB_)
theorem rkinds_v (A : AH) (T : List Txt) (p : Option Addr) (cap : Nat) (hT : TxR A p cap T) : valA Tryz.prog 55 #[.slice p T.length cap] A = some (.int .i64 (kindsE T)) := valA_eq (pureA_at (by kernel_rfl) (rkinds_h A T p cap hT) (SubA.refl _))
theorem rdays_h (n : Int) (h : Heap) : CallsH Tryz.prog 54 #[.int .i64 n] h fun r h' => r = .returned (.bool (okD n)) ∧ h' = h := by
  refine callsH_of_den ⟨Tryz.prog, 54, Tryz.f54, 9, [0, 2], _⟩ (args := [_]) Tryz.func54 rfl Tryz.ntmps54 (by simp) ?_
  simp only [argE_nil, argE_cons, ↓vmD, vmV, vmStd, Nat.reduceMul, ↓reduceIte, Nat.reduceAdd, Nat.reduceSub, Nat.reduceEqDiff, Nat.reduceLT, Nat.reduceLeDiff, reduceCtorEq, Int.reduceToNat, Int.reduceLT, Int.reduceLE, Int.reduceEq, Int.reduceNeg, Int.reduceBEq, Int.reduceBNe, String.reduceEq, forall_const, tyS, pbRfx]
  unfold okD
  rfl
theorem rdays_p (n : Int) (h : Heap) (Q : Ending → Heap → Prop) : CallsX Tryz.prog 54 #[.int .i64 n] h Q = Q (.returned (.bool (okD n))) (h) := CallsX.exact (by kernel_rfl) (rdays_h n h)
theorem rdays_q (n : Int) (h : Heap) (nt_ : Nat) (dst_ : Option Nat) (ρ_ : Env) (K_ : Env → Prop) : callQ Tryz.prog nt_ dst_ (.func (.func 54) #[] #[]) [.int .i64 n] ρ_ h K_ = putK nt_ dst_ (.bool (okD n)) ρ_ K_ := callQ_exact (by kernel_rfl) (by kernel_rfl) (rdays_h n h)
theorem rdays_v (n : Int) (A_ : AH) : valA Tryz.prog 54 #[.int .i64 n] A_ = some (.bool (okD n)) := pureA_e (by kernel_rfl) (by kernel_rfl) (fun h => rdays_h n h)
theorem rdaysS_h (r : Rs) (st : Int) : CallA Tryz.prog 60 #[.agg #[.string (bs r.d.code), .int .i64 r.d.d1, .int .i64 r.d.d2, .int .i64 r.d.d3, .int .i64 r.d.d4, .slice r.p1 r.d.cl.length r.c1, .slice r.p2 r.d.df.length r.c2], .int .i64 st] [] (fun u_ _ => u_ = .tuple #[.int .i64 (daysF r.d st).1, .int .i64 (daysF r.d st).2]) := by
  refine callA_of_denA ⟨Tryz.prog, 60, Tryz.f60, 23, [0, 1, 2, 4, 5, 6], [], [], _⟩ (args := [_, _]) Tryz.func60 rfl (by kernel_rfl) Tryz.ntmps60 (by simp) (by kernel_rfl) ?_
  intro ν fr; have nuE := fr.nu
  simp (maxDischargeDepth := 16) only [argE_nil, argE_cons, ↓vmD, vmV, vmStd, Nat.reduceMul, ↓reduceIte, Nat.reduceAdd, Nat.reduceSub, Nat.reduceEqDiff, Nat.reduceLT, Nat.reduceLeDiff, reduceCtorEq, Int.reduceToNat, Int.reduceLT, Int.reduceLE, Int.reduceEq, Int.reduceNeg, Int.reduceBEq, Int.reduceBNe, String.reduceEq, forall_const, ↓vmDA, vmVA, ↓vmQA, vmR, vmRA, ↓vmSA, vmSV, tyS, nuE, SubA.skip, SubA.refl, fr.2, vbRfx, rkind_v, rdays_v]
  unfold daysF
  all_goals ((repeat' split) <;> (try simp_all) <;> (try omega))
theorem rdaysS_v (r : Rs) (st : Int) (A_ : AH) : valA Tryz.prog 60 #[.agg #[.string (bs r.d.code), .int .i64 r.d.d1, .int .i64 r.d.d2, .int .i64 r.d.d3, .int .i64 r.d.d4, .slice r.p1 r.d.cl.length r.c1, .slice r.p2 r.d.df.length r.c2], .int .i64 st] A_ = some (.tuple #[.int .i64 (daysF r.d st).1, .int .i64 (daysF r.d st).2]) := valA_eq (pureA_of (by kernel_rfl) (rdaysS_h r st))
theorem rdue_h (r : Rs) (st date : Int) : CallA Tryz.prog 39 #[.agg #[.string (bs r.d.code), .int .i64 r.d.d1, .int .i64 r.d.d2, .int .i64 r.d.d3, .int .i64 r.d.d4, .slice r.p1 r.d.cl.length r.c1, .slice r.p2 r.d.df.length r.c2], .int .i64 st, .int .i64 date] [] (fun u_ _ => u_ = .tuple #[.int .i64 (dueF r.d st date).1, .int .i64 (dueF r.d st date).2]) := by
  refine callA_of_denA ⟨Tryz.prog, 39, Tryz.f39, 36, [0, 1, 2, 3, 6, 7, 8, 9], [], [], _⟩ (args := [_, _, _]) Tryz.func39 rfl (by kernel_rfl) Tryz.ntmps39 (by simp) (by kernel_rfl) ?_
  intro ν fr; have nuE := fr.nu
  simp (maxDischargeDepth := 16) only [argE_nil, argE_cons, ↓vmD, vmV, vmStd, Nat.reduceMul, ↓reduceIte, Nat.reduceAdd, Nat.reduceSub, Nat.reduceEqDiff, Nat.reduceLT, Nat.reduceLeDiff, reduceCtorEq, Int.reduceToNat, Int.reduceLT, Int.reduceLE, Int.reduceEq, Int.reduceNeg, Int.reduceBEq, Int.reduceBNe, String.reduceEq, forall_const, ↓vmDA, vmVA, ↓vmQA, vmR, vmRA, ↓vmSA, vmSV, tyS, nuE, SubA.skip, SubA.refl, fr.2, vbRfx, rkind_v, rdays_v, rdaysS_v]
  unfold dueF
  by_cases h1 : (daysF r.d st).2 = 0
  · simp only [h1, not_true_eq_false, ne_eq, if_false]
    cases h2 : okD (daysF r.d st).1 with
    | false => simp
    | true =>
      simp only [Bool.true_eq_false, if_false]
      simp only [okD, Bool.and_eq_true, decide_eq_true_eq] at h2
      have w : IntKind.i64.wrap (99999 - (daysF r.d st).1) = 99999 - (daysF r.d st).1 := w_i64 (by omega) (by omega)
      rw [w]
      by_cases h3 : date < 0 ∨ 99999 - (daysF r.d st).1 < date
      · have h3' : date < 0 ∨ 99999 < date ∨ 99999 < date + (daysF r.d st).1 := by omega
        simp only [h3, h3', true_or, if_true]
      · have h3' : ¬ (date < 0 ∨ 99999 < date ∨ 99999 < date + (daysF r.d st).1) := by omega
        have w2 : IntKind.i64.wrap (date + (daysF r.d st).1) = date + (daysF r.d st).1 := w_i64 (by omega) (by omega)
        rw [if_neg h3', if_neg h3, w2]
  · simp only [h1, ne_eq, not_false_eq_true, if_true]
theorem rdue_v (r : Rs) (st date : Int) (A_ : AH) : valA Tryz.prog 39 #[.agg #[.string (bs r.d.code), .int .i64 r.d.d1, .int .i64 r.d.d2, .int .i64 r.d.d3, .int .i64 r.d.d4, .slice r.p1 r.d.cl.length r.c1, .slice r.p2 r.d.df.length r.c2], .int .i64 st, .int .i64 date] A_ = some (.tuple #[.int .i64 (dueF r.d st date).1, .int .i64 (dueF r.d st date).2]) := valA_eq (pureA_of (by kernel_rfl) (rdue_h r st date))
def findS (c : Txt) : List Rs → Option Rs
  | [] => none
  | r :: l => if r.d.code = c then some r else findS c l
theorem findS_d (c : Txt) : ∀ L : List Rs, (findS c L).map Rs.d = findR c (L.map Rs.d)
  | [] => rfl
  | r :: l => by simp only [findS, List.map_cons, findR]; split <;> simp [findS_d c l]
theorem findS_mem {c : Txt} : ∀ {L : List Rs} {r : Rs}, findS c L = some r → r ∈ L
  | [], _, h => by cases h
  | x :: l, r, h => by
    simp only [findS] at h
    split at h
    · cases h; simp
    · exact List.mem_cons_of_mem _ (findS_mem h)
theorem rfind_h (A : AH) (L : List Rs) (p : Option Addr) (cap : Nat) (c : Txt) (hL : RsR A p L) (hl : L.length ≤ 9223372036854775807) : CallA Tryz.prog 38 #[.slice p L.length cap, .string (bs c)] A (fun u_ A_ => u_ = .tuple #[.agg (rsC ((findS c L).getD noRs)).toArray, .bool (findS c L).isSome] ∧ SubA A A_) := by
  refine callA_of_denA ⟨Tryz.prog, 38, Tryz.f38, 25, [0, 1, 4, 5, 6], [], [], _⟩ (args := [_, _]) Tryz.func38 rfl (by kernel_rfl) Tryz.ntmps38 (by simp) (by kernel_rfl) ?_
  intro ν fr; have nuE := fr.nu
  simp (maxDischargeDepth := 16) only [argE_nil, argE_cons, ↓vmD, vmV, vmStd, Nat.reduceMul, ↓reduceIte, Nat.reduceAdd, Nat.reduceSub, Nat.reduceEqDiff, Nat.reduceLT, Nat.reduceLeDiff, reduceCtorEq, Int.reduceToNat, Int.reduceLT, Int.reduceLE, Int.reduceEq, Int.reduceNeg, Int.reduceBEq, Int.reduceBNe, String.reduceEq, forall_const, ↓vmDA, vmVA, ↓vmQA, vmR, vmRA, ↓vmSA, vmSV, tyS, nuE, SubA.skip, SubA.refl, fr.2, vbRfx, rkind_v, rdays_v, rdaysS_v, rdue_v]
  obtain ⟨b0, hb0⟩ : ∃ b0, b0 = ν 0 := ⟨_, rfl⟩
  rw [← hb0]
  have f0 : Vm.look A b0 = none := by rw [hb0]; exact fr.2 0
  obtain ⟨e, l, he, hd, hle, hx⟩ : ∃ (e : Nat) (l : List Rs), e = 0 ∧ l = L.drop e ∧ e ≤ L.length ∧ findS c L = findS c l := ⟨0, L, rfl, rfl, by omega, rfl⟩
  rw [show (6, some (Value.int .i64 0)) = (6, some (Value.int .i64 (e : Int))) by rw [he]; rfl]
  clear he hb0 nuE fr
  induction l generalizing e with
  | nil =>
    obtain ⟨hn1, hn2⟩ := drop_nil hd hle
    have lt : ((e : Int) < (L.length : Int)) = False := eq_false (by omega)
    refine LoopA.intro (by kernel_rfl) ?_
    intro ν fr; have nuE := And.intro (fr.mem (b := b0) (by simp)) (fr.nu)
    simp (maxDischargeDepth := 16) only [argE_nil, argE_cons, ↓vmD, vmV, vmStd, Nat.reduceMul, ↓reduceIte, Nat.reduceAdd, Nat.reduceSub, Nat.reduceEqDiff, Nat.reduceLT, Nat.reduceLeDiff, reduceCtorEq, Int.reduceToNat, Int.reduceLT, Int.reduceLE, Int.reduceEq, Int.reduceNeg, Int.reduceBEq, Int.reduceBNe, String.reduceEq, forall_const, ↓vmDA, vmVA, ↓vmQA, vmR, vmRA, ↓vmSA, vmSV, tyS, nuE, SubA.skip, SubA.refl, fr.2, vbRfx, rkind_v, rdays_v, rdaysS_v, rdue_v, lt]
    rw [hx]; exact ⟨rfl, SubA.fresh f0 (SubA.refl _)⟩
  | cons x l ih =>
    obtain ⟨ha, hlt, hd', htk⟩ := drop_some hd
    have lt : ((e : Int) < (L.length : Int)) = True := eq_true (by omega)
    have li : ((e : Int) < 0) = False := eq_false (by omega)
    have we : IntKind.i64.wrap ((e : Int) + 1) = ((e + 1 : Nat) : Int) := by rw [w_i64 (by omega) (by omega)]; omega
    obtain ⟨bk, off, cs, ty, fr0, hp0, hbk, hcr, hcc⟩ := hL.1.at ha
    have hc0 : cs[off + e * 7]? = some (.string (bs x.d.code)) := hcc 0 _ rfl
    obtain ⟨n1, n2⟩ := look_ne f0 hbk
    subst hp0
    simp only [rsC] at hcr
    have t1 : ((bs x.d.code).toList = (bs c).toList) = (x.d.code = c) := by rw [bs_list, bs_list]
    refine LoopA.intro (by kernel_rfl) ?_
    intro ν fr; have nuE := And.intro (fr.mem (b := b0) (by simp)) (fr.nu)
    by_cases hc : x.d.code = c
    · have hc' := eq_true hc
      have hf : findS c (x :: l) = some x := by simp only [findS, if_pos hc]
      rw [hx, hf]
      simp (maxDischargeDepth := 16) only [argE_nil, argE_cons, ↓vmD, vmV, vmStd, Nat.reduceMul, ↓reduceIte, Nat.reduceAdd, Nat.reduceSub, Nat.reduceEqDiff, Nat.reduceLT, Nat.reduceLeDiff, reduceCtorEq, Int.reduceToNat, Int.reduceLT, Int.reduceLE, Int.reduceEq, Int.reduceNeg, Int.reduceBEq, Int.reduceBNe, String.reduceEq, forall_const, ↓vmDA, vmVA, ↓vmQA, vmR, vmRA, ↓vmSA, vmSV, tyS, nuE, SubA.skip, SubA.refl, fr.2, vbRfx, rkind_v, rdays_v, rdaysS_v, rdue_v, lt, li, hbk, n1, n2, hc0, hcr, t1, hc', we]
      exact ⟨rfl, SubA.fresh f0 (SubA.refl _)⟩
    · have hc' := eq_false hc
      simp (maxDischargeDepth := 16) only [argE_nil, argE_cons, ↓vmD, vmV, vmStd, Nat.reduceMul, ↓reduceIte, Nat.reduceAdd, Nat.reduceSub, Nat.reduceEqDiff, Nat.reduceLT, Nat.reduceLeDiff, reduceCtorEq, Int.reduceToNat, Int.reduceLT, Int.reduceLE, Int.reduceEq, Int.reduceNeg, Int.reduceBEq, Int.reduceBNe, String.reduceEq, forall_const, ↓vmDA, vmVA, ↓vmQA, vmR, vmRA, ↓vmSA, vmSV, tyS, nuE, SubA.skip, SubA.refl, fr.2, vbRfx, rkind_v, rdays_v, rdaysS_v, rdue_v, lt, li, hbk, n1, n2, hc0, t1, hc', we]
      exact LoopA.weak (ih (e + 1) hd' (by omega) (by rw [hx]; simp only [findS, if_neg hc])) (by simp only [subE, get_cons, Nat.reduceEqDiff, ↓reduceIte, reduceCtorEq, Nat.reduceAdd, and_self, and_true]) (SubA.refl _)
theorem rfind_w (A : AH) (L : List Rs) (p : Option Addr) (cap : Nat) (c : Txt) (hL : RsR A p L) (hl : L.length ≤ 9223372036854775807) (B_ : AH) (hB_ : SubA A B_) : valA Tryz.prog 38 #[.slice p L.length cap, .string (bs c)] B_ = some (.tuple #[.agg (rsC ((findS c L).getD noRs)).toArray, .bool (findS c L).isSome]) := valA_eq (pureA_at (by kernel_rfl) (rfind_h A L p cap c hL hl) hB_)
theorem rfind_v (A : AH) (L : List Rs) (p : Option Addr) (cap : Nat) (c : Txt) (hL : RsR A p L) (hl : L.length ≤ 9223372036854775807) : valA Tryz.prog 38 #[.slice p L.length cap, .string (bs c)] A = some (.tuple #[.agg (rsC ((findS c L).getD noRs)).toArray, .bool (findS c L).isSome]) := valA_eq (pureA_at (by kernel_rfl) (rfind_h A L p cap c hL hl) (SubA.refl _))
set_option linter.unusedSimpArgs false
set_option linter.unusedVariables false
set_option maxHeartbeats 2000000
set_option maxRecDepth 20000
theorem rchk_h (A : AH) (L : List Rs) (p : Option Addr) (cap : Nat) (hL : RsR A p L) (hl : L.length ≤ cap ∧ cap ≤ 9223372036854775807) : CallA Tryz.prog 31 #[.slice p L.length cap] A (fun u_ A_ => u_ = .int .i64 (chkE (L.map Rs.d)) ∧ SubA A A_) := by
  refine callA_of_denA ⟨Tryz.prog, 31, Tryz.f31, 100, [0, 2, 3, 5], [], [(6, .p [(0, 0), (1, 0), (2, 0), (3, 0), (4, 0), (5, 0), (6, 0), (7, 0), (8, 0), (9, 0), (10, 0), (11, 0), (12, 1), (13, 2), (14, 0)])], _⟩ (args := [_]) Tryz.func31 rfl (by kernel_rfl) Tryz.ntmps31 (by simp) (by kernel_rfl) ?_
  intro ν fr; have nuE := fr.nu
  by_cases h8 : 32 < L.length
  · have h8' : ((32 : Int) < (L.length : Int)) = True := eq_true (by omega)
    have hk : chkE (L.map Rs.d) = 3 := if_pos (by simpa using h8)
    simp (maxDischargeDepth := 16) only [argE_nil, argE_cons, ↓vmD, vmV, vmStd, Nat.reduceMul, ↓reduceIte, Nat.reduceAdd, Nat.reduceSub, Nat.reduceEqDiff, Nat.reduceLT, Nat.reduceLeDiff, reduceCtorEq, Int.reduceToNat, Int.reduceLT, Int.reduceLE, Int.reduceEq, Int.reduceNeg, Int.reduceBEq, Int.reduceBNe, String.reduceEq, forall_const, ↓vmDA, vmVA, ↓vmQA, vmR, vmRA, ↓vmSA, vmSV, tyS, nuE, SubA.skip, SubA.refl, fr.2, vbRfx, rkind_v, rdays_v, rdaysS_v, rdue_v, h8', hk]
  have h8' : ((32 : Int) < (L.length : Int)) = False := eq_false (by omega)
  simp (maxDischargeDepth := 16) only [argE_nil, argE_cons, ↓vmD, vmV, vmStd, Nat.reduceMul, ↓reduceIte, Nat.reduceAdd, Nat.reduceSub, Nat.reduceEqDiff, Nat.reduceLT, Nat.reduceLeDiff, reduceCtorEq, Int.reduceToNat, Int.reduceLT, Int.reduceLE, Int.reduceEq, Int.reduceNeg, Int.reduceBEq, Int.reduceBNe, String.reduceEq, forall_const, ↓vmDA, vmVA, ↓vmQA, vmR, vmRA, ↓vmSA, vmSV, tyS, nuE, SubA.skip, SubA.refl, fr.2, vbRfx, rkind_v, rdays_v, rdaysS_v, rdue_v, h8']
  obtain ⟨e, l, he, hd, hle, hx⟩ : ∃ (e : Nat) (l : List Rs), e = 0 ∧ l = L.drop e ∧ e ≤ L.length ∧ chkE (L.map Rs.d) = chkG ((L.take e).map Rs.d) (l.map Rs.d) := ⟨0, L, rfl, rfl, by omega, if_neg (by simpa using h8)⟩
  rw [show (3, some (Value.int .i64 0)) = (3, some (Value.int .i64 (e : Int))) by rw [he]; rfl]
  clear he nuE fr
  induction l generalizing e with
  | nil =>
    obtain ⟨hn1, hn2⟩ := drop_nil hd hle
    have lt : ((e : Int) < (L.length : Int)) = False := eq_false (by omega)
    refine LoopA.intro (by kernel_rfl) ?_
    intro ν fr; have nuE := fr.nu
    simp (maxDischargeDepth := 16) only [argE_nil, argE_cons, ↓vmD, vmV, vmStd, Nat.reduceMul, ↓reduceIte, Nat.reduceAdd, Nat.reduceSub, Nat.reduceEqDiff, Nat.reduceLT, Nat.reduceLeDiff, reduceCtorEq, Int.reduceToNat, Int.reduceLT, Int.reduceLE, Int.reduceEq, Int.reduceNeg, Int.reduceBEq, Int.reduceBNe, String.reduceEq, forall_const, ↓vmDA, vmVA, ↓vmQA, vmR, vmRA, ↓vmSA, vmSV, tyS, nuE, SubA.skip, SubA.refl, fr.2, vbRfx, rkind_v, rdays_v, rdaysS_v, rdue_v, lt]
    rw [hx]; rfl
  | cons x l ih =>
    obtain ⟨ha, hlt, hd', htk⟩ := drop_some hd
    have lt : ((e : Int) < (L.length : Int)) = True := eq_true (by omega)
    have li : ((e : Int) < 0) = False := eq_false (by omega)
    have we : IntKind.i64.wrap ((e : Int) + 1) = ((e + 1 : Nat) : Int) := by rw [w_i64 (by omega) (by omega)]; omega
    obtain ⟨bk, off, cs, ty, fr0, hp0, hbk, hcr, hcc⟩ := hL.1.at ha
    subst hp0
    have hc0 : cs[off + e * 7]? = some (.string (bs x.d.code)) := hcc 0 _ rfl
    have hc1 : cs[off + e * 7 + 1]? = some (.int .i64 x.d.d1) := hcc 1 _ rfl
    have hc2 : cs[off + e * 7 + 2]? = some (.int .i64 x.d.d2) := hcc 2 _ rfl
    have hc3 : cs[off + e * 7 + 3]? = some (.int .i64 x.d.d3) := hcc 3 _ rfl
    have hc4 : cs[off + e * 7 + 4]? = some (.int .i64 x.d.d4) := hcc 4 _ rfl
    have hc5 : cs[off + e * 7 + 5]? = some (.slice x.p1 x.d.cl.length x.c1) := hcc 5 _ rfl
    have hc6 : cs[off + e * 7 + 6]? = some (.slice x.p2 x.d.df.length x.c2) := hcc 6 _ rfl
    have hxr := hL.2 x (List.mem_of_getElem? ha)
    have hcl : (e : Int) ≤ (cap : Int) := by omega
    have htl : (L.take e).length = e := by rw [List.length_take]; omega
    have hfi := rfind_w A (L.take e) (some ⟨bk, off, none⟩) cap x.d.code (hL.take e) (by omega) A (SubA.refl A)
    rw [htl] at hfi
    generalize hy : (findS x.d.code (L.take e)).getD noRs = y at hfi
    have hfs : (findS x.d.code (L.take e)).isSome = (findR x.d.code ((L.take e).map Rs.d)).isSome := by rw [← findS_d]; cases findS x.d.code (L.take e) <;> rfl
    have hG : chkG ((L.take e).map Rs.d) ((x :: l).map Rs.d) = if nameF (bs x.d.code) = false then 5 else if (findR x.d.code ((L.take e).map Rs.d)).isSome = true then 7 else if okDs x.d = false then 4 else if kindsE x.d.cl ≠ 0 then kindsE x.d.cl else if kindsE x.d.df ≠ 0 then kindsE x.d.df else chkG ((L.take (e + 1)).map Rs.d) (l.map Rs.d) := by
      rw [htk, List.map_append]; rfl
    rw [hG] at hx
    refine LoopA.intro (by kernel_rfl) ?_
    intro ν fr; have nuE := fr.nu
    obtain ⟨n1, n2⟩ := look_ne (fr.2 0) hbk
    have f0 := fr.2 0
    have v1 := fun o => rkinds_w A x.d.cl x.p1 x.c1 hxr.1 ((ν 0, o) :: A) (SubA.fresh f0 (SubA.refl _))
    have v2 := fun o => rkinds_w A x.d.df x.p2 x.c2 hxr.2 ((ν 0, o) :: A) (SubA.fresh f0 (SubA.refl _))
    simp (maxDischargeDepth := 16) only [argE_nil, argE_cons, ↓vmD, vmV, vmStd, Nat.reduceMul, ↓reduceIte, Nat.reduceAdd, Nat.reduceSub, Nat.reduceEqDiff, Nat.reduceLT, Nat.reduceLeDiff, reduceCtorEq, Int.reduceToNat, Int.reduceLT, Int.reduceLE, Int.reduceEq, Int.reduceNeg, Int.reduceBEq, Int.reduceBNe, String.reduceEq, forall_const, ↓vmDA, vmVA, ↓vmQA, vmR, vmRA, ↓vmSA, vmSV, tyS, nuE, SubA.skip, SubA.refl, fr.2, vbRfx, rkind_v, rdays_v, rdaysS_v, rdue_v, lt, li, hbk, n1, n2, hc0, hc1, hc2, hc3, hc4, hc5, hc6, we, hcl, hfi, hfs, rsC, v1, v2, ite_self, Nat.sub_zero]
    unfold okDs at hx
    cases h1 : nameF (bs x.d.code) with
    | false => rw [hx]; simp [h1]
    | true =>
    cases h2 : (findR x.d.code ((L.take e).map Rs.d)).isSome with
    | true => simp only [h1, h2, Bool.true_eq_false, if_false, if_true] at hx ⊢; rw [hx]
    | false =>
    simp only [h1, h2, Bool.true_eq_false, Bool.false_eq_true, if_false] at hx ⊢
    cases q1 : okD x.d.d1 with
    | false => simp [q1] at hx ⊢; exact hx.symm
    | true =>
    cases q2 : okD x.d.d2 with
    | false => simp [q1, q2] at hx ⊢; exact hx.symm
    | true =>
    cases q3 : okD x.d.d3 with
    | false => simp [q1, q2, q3] at hx ⊢; exact hx.symm
    | true =>
    cases q4 : okD x.d.d4 with
    | false => simp [q1, q2, q3, q4] at hx ⊢; exact hx.symm
    | true =>
    simp only [q1, q2, q3, q4, Bool.and_self, Bool.true_eq_false, if_false, if_true] at hx ⊢
    by_cases k1 : kindsE x.d.cl = 0
    · by_cases k2 : kindsE x.d.df = 0
      · simp only [k1, k2, ne_eq, not_true_eq_false, if_false] at hx ⊢
        exact LoopA.at (SubA.fresh f0 (SubA.refl _)) (LoopA.weak (ih (e + 1) hd' (by omega) hx) (by simp only [subE, get_cons, Nat.reduceEqDiff, ↓reduceIte, reduceCtorEq, Nat.reduceAdd, and_self, and_true]) (SubA.refl _))
      · simp only [k1, k2, ne_eq, not_true_eq_false, not_false_eq_true, if_false, if_true] at hx ⊢; rw [hx]
    · simp only [k1, ne_eq, not_false_eq_true, if_true] at hx ⊢; rw [hx]
theorem rchk_w (A : AH) (L : List Rs) (p : Option Addr) (cap : Nat) (hL : RsR A p L) (hl : L.length ≤ cap ∧ cap ≤ 9223372036854775807) (B_ : AH) (hB_ : SubA A B_) : valA Tryz.prog 31 #[.slice p L.length cap] B_ = some (.int .i64 (chkE (L.map Rs.d))) := valA_eq (pureA_at (by kernel_rfl) (rchk_h A L p cap hL hl) hB_)
theorem rchk_v (A : AH) (L : List Rs) (p : Option Addr) (cap : Nat) (hL : RsR A p L) (hl : L.length ≤ cap ∧ cap ≤ 9223372036854775807) : valA Tryz.prog 31 #[.slice p L.length cap] A = some (.int .i64 (chkE (L.map Rs.d))) := valA_eq (pureA_at (by kernel_rfl) (rchk_h A L p cap hL hl) (SubA.refl _))
theorem rneeds_h (A : AH) (r : Rs) (st : Int) (hr : InR A r) (hl : r.d.cl.length ≤ 8000000000000 ∧ r.d.df.length ≤ 8000000000000) : CallA Tryz.prog 41 #[.agg #[.string (bs r.d.code), .int .i64 r.d.d1, .int .i64 r.d.d2, .int .i64 r.d.d3, .int .i64 r.d.d4, .slice r.p1 r.d.cl.length r.c1, .slice r.p2 r.d.df.length r.c2], .int .i64 st] A (fun u_ A_ => ∃ v B, u_ = v ∧ OwnL strC 1 9 v B (needsF r.d st) ∧ Dis B A ∧ SubA (B ++ A) A_) := by
  refine callA_of_denA ⟨Tryz.prog, 41, Tryz.f41, 18, [0, 1, 2, 4, 5], [], [], _⟩ (args := [_, _]) Tryz.func41 rfl (by kernel_rfl) Tryz.ntmps41 (by simp) (by kernel_rfl) ?_
  intro ν fr; have nuE := fr.nu
  by_cases s1 : st = 1
  · have s1' := eq_true s1
    simp (maxDischargeDepth := 16) only [argE_nil, argE_cons, ↓vmD, vmV, vmStd, Nat.reduceMul, ↓reduceIte, Nat.reduceAdd, Nat.reduceSub, Nat.reduceEqDiff, Nat.reduceLT, Nat.reduceLeDiff, reduceCtorEq, Int.reduceToNat, Int.reduceLT, Int.reduceLE, Int.reduceEq, Int.reduceNeg, Int.reduceBEq, Int.reduceBNe, String.reduceEq, forall_const, ↓vmDA, vmVA, ↓vmQA, vmR, vmRA, ↓vmSA, vmSV, tyS, nuE, SubA.skip, SubA.refl, fr.2, vbRfx, rkind_v, rdays_v, rdaysS_v, rdue_v, s1', sc_s0]
    have f0 := fr.2 0
    have g1 := fr.2 1
    have f1 : ∀ o, Vm.look ((ν 0, o) :: A) (ν 1) = none := fun o => by simp [Vm.look, nuE, fr.2 1]
    refine RunA.use ?_
    refine append_src (m := r.d.cl.length) (news := r.d.cl.flatMap strC) (B := [(ν 1, .cells #[] 9)]) slc41 zro9 rfl (by decide) (OwnL.at0 strC 1 _ _) (SubA.left [_] _) ?_ (flat_one str_one r.d.cl) (by simp only [maxLen, List.length_nil]; omega) (by simp only [List.length_nil]; omega) ?_
    · rcases hr.1.1.src with h | ⟨g, off, h1, h2⟩
      · exact .inl h
      · refine .inr ⟨g, off, h1, ?_⟩
        rw [← h2]
        obtain ⟨cc, ce, cfr, hlook⟩ := rdCS_some h2
        rw [hlook]
        congr 1
        exact SubA.fresh (f1 _) (SubA.fresh f0 (SubA.refl _)) _ _ hlook
    intro v' B' ho' hb'
    refine ⟨B' ++ A, SubA.app (SubA.fresh (f1 _) (SubA.fresh f0 (SubA.refl _))), ?_⟩
    intro ν2 fr2
    have fr := fr2
    have nuE := fr.nu
    simp (maxDischargeDepth := 16) only [argE_nil, argE_cons, ↓vmD, vmV, vmStd, Nat.reduceMul, ↓reduceIte, Nat.reduceAdd, Nat.reduceSub, Nat.reduceEqDiff, Nat.reduceLT, Nat.reduceLeDiff, reduceCtorEq, Int.reduceToNat, Int.reduceLT, Int.reduceLE, Int.reduceEq, Int.reduceNeg, Int.reduceBEq, Int.reduceBNe, String.reduceEq, forall_const, ↓vmDA, vmVA, ↓vmQA, vmR, vmRA, ↓vmSA, vmSV, tyS, nuE, SubA.skip, SubA.refl, fr.2, vbRfx, rkind_v, rdays_v, rdaysS_v, rdue_v]
    refine ⟨_, B', rfl, ?_, ap_dis hb' (Dis.one g1) (SubA.fresh (f1 _) (SubA.fresh f0 (SubA.refl _))), SubA.refl _⟩
    have hn : needsF r.d st = r.d.cl := by simp [needsF, s1]
    rw [hn]
    unfold OwnL
    simpa using ho'
  · have s1' := eq_false s1
    by_cases s2 : st = 2
    · have s2' := eq_true s2
      simp (maxDischargeDepth := 16) only [argE_nil, argE_cons, ↓vmD, vmV, vmStd, Nat.reduceMul, ↓reduceIte, Nat.reduceAdd, Nat.reduceSub, Nat.reduceEqDiff, Nat.reduceLT, Nat.reduceLeDiff, reduceCtorEq, Int.reduceToNat, Int.reduceLT, Int.reduceLE, Int.reduceEq, Int.reduceNeg, Int.reduceBEq, Int.reduceBNe, String.reduceEq, forall_const, ↓vmDA, vmVA, ↓vmQA, vmR, vmRA, ↓vmSA, vmSV, tyS, nuE, SubA.skip, SubA.refl, fr.2, vbRfx, rkind_v, rdays_v, rdaysS_v, rdue_v, s1', s2', sc_s0]
      have f0 := fr.2 0
      have g1 := fr.2 1
      have f1 : ∀ o, Vm.look ((ν 0, o) :: A) (ν 1) = none := fun o => by simp [Vm.look, nuE, fr.2 1]
      refine RunA.use ?_
      refine append_src (m := r.d.df.length) (news := r.d.df.flatMap strC) (B := [(ν 1, .cells #[] 9)]) slc41 zro9 rfl (by decide) (OwnL.at0 strC 1 _ _) (SubA.left [_] _) ?_ (flat_one str_one r.d.df) (by simp only [maxLen, List.length_nil]; omega) (by simp only [List.length_nil]; omega) ?_
      · rcases hr.2.1.src with h | ⟨g, off, h1, h2⟩
        · exact .inl h
        · refine .inr ⟨g, off, h1, ?_⟩
          rw [← h2]
          obtain ⟨cc, ce, cfr, hlook⟩ := rdCS_some h2
          rw [hlook]
          congr 1
          exact SubA.fresh (f1 _) (SubA.fresh f0 (SubA.refl _)) _ _ hlook
      intro v' B' ho' hb'
      refine ⟨B' ++ A, SubA.app (SubA.fresh (f1 _) (SubA.fresh f0 (SubA.refl _))), ?_⟩
      intro ν2 fr2
      have fr := fr2
      have nuE := fr.nu
      simp (maxDischargeDepth := 16) only [argE_nil, argE_cons, ↓vmD, vmV, vmStd, Nat.reduceMul, ↓reduceIte, Nat.reduceAdd, Nat.reduceSub, Nat.reduceEqDiff, Nat.reduceLT, Nat.reduceLeDiff, reduceCtorEq, Int.reduceToNat, Int.reduceLT, Int.reduceLE, Int.reduceEq, Int.reduceNeg, Int.reduceBEq, Int.reduceBNe, String.reduceEq, forall_const, ↓vmDA, vmVA, ↓vmQA, vmR, vmRA, ↓vmSA, vmSV, tyS, nuE, SubA.skip, SubA.refl, fr.2, vbRfx, rkind_v, rdays_v, rdaysS_v, rdue_v]
      refine ⟨_, B', rfl, ?_, ap_dis hb' (Dis.one g1) (SubA.fresh (f1 _) (SubA.fresh f0 (SubA.refl _))), SubA.refl _⟩
      have hn : needsF r.d st = r.d.df := by simp [needsF, s1, s2]
      rw [hn]
      unfold OwnL
      simpa using ho'
    · have s2' := eq_false s2
      simp (maxDischargeDepth := 16) only [argE_nil, argE_cons, ↓vmD, vmV, vmStd, Nat.reduceMul, ↓reduceIte, Nat.reduceAdd, Nat.reduceSub, Nat.reduceEqDiff, Nat.reduceLT, Nat.reduceLeDiff, reduceCtorEq, Int.reduceToNat, Int.reduceLT, Int.reduceLE, Int.reduceEq, Int.reduceNeg, Int.reduceBEq, Int.reduceBNe, String.reduceEq, forall_const, ↓vmDA, vmVA, ↓vmQA, vmR, vmRA, ↓vmSA, vmSV, tyS, nuE, SubA.skip, SubA.refl, fr.2, vbRfx, rkind_v, rdays_v, rdaysS_v, rdue_v, s1', s2']
      exact ⟨_, [], rfl, by simp only [needsF, s1, s2, if_false]; exact OwnL.nil _ _ _, Dis.nil _, SubA.fresh (fr.2 0) (SubA.refl _)⟩

end Go.Proofs.YtkkpmcomloekoaaGreat
