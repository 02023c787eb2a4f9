/-
Reasons: the walk of Check.
Conditions: none.
-/
import Derived.Test.YtiholbpchhifiaaGreatDoorRsw
import Derived.Test.YtiholbpchhifiaaGreatDoorVmAU
namespace Go.Proofs.YtiholbpchhifiaaGreatDoor
open Go.Vm
set_option linter.unusedSimpArgs false
set_option linter.unusedVariables false
set_option maxHeartbeats 2000000
set_option maxRecDepth 20000
theorem vbRsk : type_of% (And.intro @slIndexByte_v (And.intro @indexByte_v (And.intro @indexRune_v (And.intro @containsRune_v (And.intro @classOf_v (And.intro @isWordByte_v (And.intro @wordAt_v (And.intro @isName_v (And.intro @possible_v (And.intro @days_v (@due_v))))))))))) := And.intro @slIndexByte_v (And.intro @indexByte_v (And.intro @indexRune_v (And.intro @containsRune_v (And.intro @classOf_v (And.intro @isWordByte_v (And.intro @wordAt_v (And.intro @isName_v (And.intro @possible_v (And.intro @days_v (@due_v))))))))))
def BigR (L : List Rs) : Prop := ∀ r ∈ L, r.d.cl.length ≤ 8000000000000 ∧ r.d.df.length ≤ 8000000000000
theorem BigR.take {L : List Rs} (h : BigR L) (i : Nat) : BigR (L.take i) := fun r hr => h r (List.mem_of_mem_take hr)
theorem sc_i4 (a b c d : Int) : sliceCells Tryz.prog 46 4 [(0, .int .i64 a), (1, .int .i64 b), (2, .int .i64 c), (3, .int .i64 d)] = some (3, #[.int .i64 a, .int .i64 b, .int .i64 c, .int .i64 d]) := by kernel_rfl
theorem find_n (A : AH) (L : List Rs) (p : Option Addr) (cap : Nat) (c : Txt) (hL : RsR A p L) (hl : BigR L) (hl2 : L.length ≤ 8000000000000) : CallA Tryz.prog 27 #[.slice p L.length cap, .string (bs c)] A (fun u D => ∃ v B, u = v ∧ (∃ r : Rs, v = .tuple #[.agg (rsC r).toArray, .bool (findR c (L.map Rs.d)).isSome] ∧ r.d = (findR c (L.map Rs.d)).getD noRn ∧ InR (B ++ A) r) ∧ Dis B A ∧ SubA (B ++ A) D) :=
  (find_h A L p cap c hL hl hl2).mono fun u D ⟨r, B, h1, h2, h3, h4, h5⟩ => ⟨u, B, rfl, ⟨r, h1, h2, h3⟩, h4, h5⟩
theorem kindsE_len {l : List Txt} (h : kindsE l = 0) : l.length ≤ 8 := by
  unfold kindsE at h
  split at h
  · cases h
  · omega
theorem chkG_kinds : ∀ (l dn : List Rn), chkG dn l = 0 → ∀ r ∈ l, kindsE r.cl = 0 ∧ kindsE r.df = 0
  | [], _, _, _, h => by cases h
  | x :: l, dn, h, r, hr => by
    simp only [chkG] at h
    split at h
    · cases h
    split at h
    · cases h
    split at h
    · cases h
    split at h
    · rename_i q; exact absurd h q
    split at h
    · rename_i q; exact absurd h q
    rename_i q1 q2
    rcases List.mem_cons.1 hr with e | e
    · rw [e]; exact ⟨by simpa using q1, by simpa using q2⟩
    · exact chkG_kinds l _ h r e
theorem chkE_big {L : List Rs} (h : chkE (L.map Rs.d) = 0) : BigR L := fun r hr => by
  unfold chkE at h
  split at h
  · cases h
  have := chkG_kinds _ _ h r.d (List.mem_map_of_mem hr)
  have h1 := kindsE_len this.1
  have h2 := kindsE_len this.2
  omega
theorem chkR_h (A : AH) (L : List Rs) (p : Option Addr) (cap : Nat) (hL : RsR A p L) (hl : L.length ≤ cap ∧ cap ≤ 9223372036854775807) : CallA Tryz.prog 37 #[.slice p L.length cap] A (fun u_ A_ => u_ = .int .i64 (chkE (L.map Rs.d)) ∧ SubA A A_) := by
  refine callA_of_denA ⟨Tryz.prog, 37, Tryz.f37, 66, [0, 2, 3, 4, 6, 8, 9, 10, 14, 15, 16, 43, 44, 45], [27], [], _⟩ (args := [_]) Tryz.func37 rfl (by kernel_rfl) Tryz.ntmps37 (by simp) (by kernel_rfl) ?_
  intro ν fr; have nuE := fr.nu
  by_cases h8 : 32 < L.length
  · have h8' : ((32 : Int) < (L.length : Int)) = True := eq_true (by omega)
    have hk : chkE (L.map Rs.d) = 3 := if_pos (by simpa using h8)
    simp (maxDischargeDepth := 16) only [argE_nil, argE_cons, ↓vmD, vmV, vmStd, Nat.reduceMul, ↓reduceIte, Nat.reduceAdd, Nat.reduceSub, Nat.reduceEqDiff, Nat.reduceLT, Nat.reduceLeDiff, reduceCtorEq, Int.reduceToNat, Int.reduceLT, Int.reduceLE, Int.reduceEq, Int.reduceNeg, Int.reduceBEq, Int.reduceBNe, String.reduceEq, forall_const, ↓vmDA, vmVA, ↓vmQA, vmR, vmRA, ↓vmSA, vmSV, tyS, nuE, SubA.skip, SubA.refl, fr.2, vbRsk, h8', hk]
  have h8' : ((32 : Int) < (L.length : Int)) = False := eq_false (by omega)
  simp (maxDischargeDepth := 16) only [argE_nil, argE_cons, ↓vmD, vmV, vmStd, Nat.reduceMul, ↓reduceIte, Nat.reduceAdd, Nat.reduceSub, Nat.reduceEqDiff, Nat.reduceLT, Nat.reduceLeDiff, reduceCtorEq, Int.reduceToNat, Int.reduceLT, Int.reduceLE, Int.reduceEq, Int.reduceNeg, Int.reduceBEq, Int.reduceBNe, String.reduceEq, forall_const, ↓vmDA, vmVA, ↓vmQA, vmR, vmRA, ↓vmSA, vmSV, tyS, nuE, SubA.skip, SubA.refl, fr.2, vbRsk, h8']
  obtain ⟨e, l, he, hd, hle, hx, hbt⟩ : ∃ (e : Nat) (l : List Rs), e = 0 ∧ l = L.drop e ∧ e ≤ L.length ∧ chkE (L.map Rs.d) = chkG ((L.take e).map Rs.d) (l.map Rs.d) ∧ BigR (L.take e) := ⟨0, L, rfl, rfl, by omega, if_neg (by simpa using h8), fun r hr => by simp at hr⟩
  rw [show (16, some (Value.int .i64 0)) = (16, some (Value.int .i64 (e : Int))) by rw [he]; rfl]
  clear he nuE fr
  induction l generalizing e with
  | nil =>
    obtain ⟨hn1, hn2⟩ := drop_nil hd hle
    have lt : ((e : Int) < (L.length : Int)) = False := eq_false (by omega)
    refine LoopA.intro (by kernel_rfl) ?_
    intro ν fr; have nuE := fr.nu
    simp (maxDischargeDepth := 16) only [argE_nil, argE_cons, ↓vmD, vmV, vmStd, Nat.reduceMul, ↓reduceIte, Nat.reduceAdd, Nat.reduceSub, Nat.reduceEqDiff, Nat.reduceLT, Nat.reduceLeDiff, reduceCtorEq, Int.reduceToNat, Int.reduceLT, Int.reduceLE, Int.reduceEq, Int.reduceNeg, Int.reduceBEq, Int.reduceBNe, String.reduceEq, forall_const, ↓vmDA, vmVA, ↓vmQA, vmR, vmRA, ↓vmSA, vmSV, tyS, nuE, SubA.skip, SubA.refl, fr.2, vbRsk, lt]
    rw [hx]; rfl
  | cons x l ih =>
    obtain ⟨ha, hlt, hd', htk⟩ := drop_some hd
    have lt : ((e : Int) < (L.length : Int)) = True := eq_true (by omega)
    have we : IntKind.i64.wrap ((e : Int) + 1) = ((e + 1 : Nat) : Int) := by rw [w_i64 (by omega) (by omega)]; omega
    obtain ⟨bk, off, cs, ty, fr0, hp0, hbk, hcr, hcc⟩ := hL.1.at ha
    subst hp0
    have hxm := List.mem_of_getElem? ha
    have hxr := hL.2 x hxm
    have hcl : (e : Int) ≤ (cap : Int) := by omega
    refine LoopA.intro (by kernel_rfl) ?_
    intro ν fr; have nuE := fr.nu
    simp only [rsC] at hcr
    have hG : chkG ((L.take e).map Rs.d) ((x :: l).map Rs.d) = if nameF (bs x.d.code) = false then 5 else if (findR x.d.code ((L.take e).map Rs.d)).isSome = true then 7 else if okDs x.d = false then 4 else if kindsE x.d.cl ≠ 0 then kindsE x.d.cl else if kindsE x.d.df ≠ 0 then kindsE x.d.df else chkG ((L.take (e + 1)).map Rs.d) (l.map Rs.d) := by
      rw [htk, List.map_append]; rfl
    rw [hG] at hx
    cases h1 : nameF (bs x.d.code) with
    | false =>
      simp (maxDischargeDepth := 16) only [argE_nil, argE_cons, ↓vmD, vmV, vmStd, Nat.reduceMul, ↓reduceIte, Nat.reduceAdd, Nat.reduceSub, Nat.reduceEqDiff, Nat.reduceLT, Nat.reduceLeDiff, reduceCtorEq, Int.reduceToNat, Int.reduceLT, Int.reduceLE, Int.reduceEq, Int.reduceNeg, Int.reduceBEq, Int.reduceBNe, String.reduceEq, forall_const, ↓vmDA, vmVA, ↓vmQA, vmR, vmRA, ↓vmSA, vmSV, tyS, nuE, SubA.skip, SubA.refl, fr.2, vbRsk, lt, hbk, hcr, h1, we]
      rw [hx, if_pos h1]
    | true =>
      rw [if_neg (by rw [h1]; simp)] at hx
      simp (maxDischargeDepth := 16) only [argE_nil, argE_cons, ↓vmD, vmV, vmStd, Nat.reduceMul, ↓reduceIte, Nat.reduceAdd, Nat.reduceSub, Nat.reduceEqDiff, Nat.reduceLT, Nat.reduceLeDiff, reduceCtorEq, Int.reduceToNat, Int.reduceLT, Int.reduceLE, Int.reduceEq, Int.reduceNeg, Int.reduceBEq, Int.reduceBNe, String.reduceEq, forall_const, ↓vmDA, vmVA, ↓vmQA, vmR, vmRA, ↓vmSA, vmSV, tyS, nuE, SubA.skip, SubA.refl, fr.2, vbRsk, lt, hbk, hcr, h1, we, hcl, ite_self, Nat.sub_zero]
      have f0 := fr.2 0
      have dst_ : True := (by simp [nuE]); generalize ν 0 = b0 at dst_  f0 ⊢
      clear nuE fr
      refine MeantA.tree [5, 10] (.one 0 0 (.one 1 0 (.one 2 0 (.one 3 0 (.one 4 0 (.two 5 2 (.one 6 0 (.one 7 0 (.one 8 0 (.one 9 1 (.one 10 2 (.one 11 0 .nil)))))) 9 1 (.one 5 2 (.one 6 0 (.one 7 0 (.one 8 0 (.one 10 2 (.one 11 0 .nil)))))))))))) _ (SubA.refl _) (by kernel_rfl) (by kernel_rfl) (by kernel_rfl) (by kernel_rfl) (by kernel_rfl) ?_
      intro ν fr; have nuE := And.intro (fr.mem (b := b0) (by simp)) (And.intro dst_ fr.nu)
      simp (maxDischargeDepth := 16) only [argE_nil, argE_cons, ↓vmD, vmV, vmStd, Nat.reduceMul, ↓reduceIte, Nat.reduceAdd, Nat.reduceSub, Nat.reduceEqDiff, Nat.reduceLT, Nat.reduceLeDiff, reduceCtorEq, Int.reduceToNat, Int.reduceLT, Int.reduceLE, Int.reduceEq, Int.reduceNeg, Int.reduceBEq, Int.reduceBNe, String.reduceEq, forall_const, ↓vmDA, vmVA, ↓vmQA, vmR, vmRA, ↓vmSA, vmSV, tyS, nuE, SubA.skip, SubA.refl, fr.2, vbRsk, tA_nil, tA_one, tA_two, hcl, ite_self, Nat.sub_zero]
      have htl : (L.take e).length = e := by rw [List.length_take]; omega
      have hfi := find_n A (L.take e) (some ⟨bk, off, none⟩) cap x.d.code (hL.take e) hbt (by omega)
      rw [htl] at hfi
      have sA : SubA A ((b0, Obj.cells (rsC x).toArray 57) :: A) := SubA.fresh f0 (SubA.refl _)
      have w1 : IntKind.i64.wrap (0 + 1) = 1 := by decide
      have w2 : IntKind.i64.wrap (1 + 1) = 2 := by decide
      have w3 : IntKind.i64.wrap (2 + 1) = 3 := by decide
      have w4 : IntKind.i64.wrap (3 + 1) = 4 := by decide
      have v1 := checkKinds_w A x.d.cl x.p1 x.c1 hxr.1
      have v2 := checkKinds_w A x.d.df x.p2 x.c2 hxr.2
      refine ⟨?_, ?_⟩
      · refine CallA.newX hfi sA ?_
        rintro v B ⟨r, rfl, hrd, hin⟩ hd
        refine ⟨_, hd.right, ?_⟩
        intro ν fr; have nuE := And.intro (fr.mem (b := b0) (by simp)) (And.intro dst_ fr.nu)
        simp (maxDischargeDepth := 16) only [argE_nil, argE_cons, ↓vmD, vmV, vmStd, Nat.reduceMul, ↓reduceIte, Nat.reduceAdd, Nat.reduceSub, Nat.reduceEqDiff, Nat.reduceLT, Nat.reduceLeDiff, reduceCtorEq, Int.reduceToNat, Int.reduceLT, Int.reduceLE, Int.reduceEq, Int.reduceNeg, Int.reduceBEq, Int.reduceBNe, String.reduceEq, forall_const, ↓vmDA, vmVA, ↓vmQA, vmR, vmRA, ↓vmSA, vmSV, tyS, nuE, SubA.skip, SubA.refl, fr.2, vbRsk, rsC, sc_i4]
        cases h2 : (findR x.d.code ((L.take e).map Rs.d)).isSome with
        | true =>
          simp (maxDischargeDepth := 16) only [argE_nil, argE_cons, ↓vmD, vmV, vmStd, Nat.reduceMul, ↓reduceIte, Nat.reduceAdd, Nat.reduceSub, Nat.reduceEqDiff, Nat.reduceLT, Nat.reduceLeDiff, reduceCtorEq, Int.reduceToNat, Int.reduceLT, Int.reduceLE, Int.reduceEq, Int.reduceNeg, Int.reduceBEq, Int.reduceBNe, String.reduceEq, forall_const, ↓vmDA, vmVA, ↓vmQA, vmR, vmRA, ↓vmSA, vmSV, tyS, nuE, SubA.skip, SubA.refl, fr.2, vbRsk]
          rw [if_pos h2] at hx
          exact ⟨by rw [hx], SubA.skip (sA.none (fr.2 0)) sA⟩
        | false =>
          rw [if_neg (by rw [h2]; simp)] at hx
          simp (maxDischargeDepth := 16) only [argE_nil, argE_cons, ↓vmD, vmV, vmStd, Nat.reduceMul, ↓reduceIte, Nat.reduceAdd, Nat.reduceSub, Nat.reduceEqDiff, Nat.reduceLT, Nat.reduceLeDiff, reduceCtorEq, Int.reduceToNat, Int.reduceLT, Int.reduceLE, Int.reduceEq, Int.reduceNeg, Int.reduceBEq, Int.reduceBNe, String.reduceEq, forall_const, ↓vmDA, vmVA, ↓vmQA, vmR, vmRA, ↓vmSA, vmSV, tyS, nuE, SubA.skip, SubA.refl, fr.2, vbRsk]
          have hc1 : ((ν 1 = b0) = False) ∧ ((b0 = ν 1) = False) := by simp [nuE]
          have fc1 : Vm.look A (ν 1) = none := sA.none (fr.2 1)
          refine LoopA.at (A := (ν 1, (Obj.cells #[.int .i64 x.d.d1, .int .i64 x.d.d2, .int .i64 x.d.d3, .int .i64 x.d.d4] 3)) :: (b0, Obj.cells #[.string (bs x.d.code), .int .i64 x.d.d1, .int .i64 x.d.d2, .int .i64 x.d.d3, .int .i64 x.d.d4, .slice x.p1 x.d.cl.length x.c1, .slice x.p2 x.d.df.length x.c2] 57) :: A) (cons_in (SubA.skip (fr.2 0) (SubA.refl _))) ?_
          generalize ν 1 = c1 at hc1 fc1 ⊢
          clear nuE fr dst_
          have sA2 : SubA A ((c1, (Obj.cells #[.int .i64 x.d.d1, .int .i64 x.d.d2, .int .i64 x.d.d3, .int .i64 x.d.d4] 3)) :: (b0, Obj.cells #[.string (bs x.d.code), .int .i64 x.d.d1, .int .i64 x.d.d2, .int .i64 x.d.d3, .int .i64 x.d.d4, .slice x.p1 x.d.cl.length x.c1, .slice x.p2 x.d.df.length x.c2] 57) :: A) := SubA.skip fc1 (SubA.skip f0 (SubA.refl _))
          have v1' := v1 _ sA2
          have v2' := v2 _ sA2
          refine LoopA.intro (by kernel_rfl) ?_
          intro ν fr
          have nuE := And.intro hc1 (And.intro (fr.mem (b := c1) (by simp)) (And.intro (fr.mem (b := b0) (by simp)) fr.nu))
          cases k1 : okD x.d.d1 with
          | false =>
            simp (maxDischargeDepth := 16) only [argE_nil, argE_cons, ↓vmD, vmV, vmStd, Nat.reduceMul, ↓reduceIte, Nat.reduceAdd, Nat.reduceSub, Nat.reduceEqDiff, Nat.reduceLT, Nat.reduceLeDiff, reduceCtorEq, Int.reduceToNat, Int.reduceLT, Int.reduceLE, Int.reduceEq, Int.reduceNeg, Int.reduceBEq, Int.reduceBNe, String.reduceEq, forall_const, ↓vmDA, vmVA, ↓vmQA, vmR, vmRA, ↓vmSA, vmSV, tyS, nuE, SubA.skip, SubA.refl, fr.2, vbRsk, k1]
            rw [if_pos (by simp [okDs, k1])] at hx
            exact ⟨by rw [hx], sA2⟩
          | true =>
          simp (maxDischargeDepth := 16) only [argE_nil, argE_cons, ↓vmD, vmV, vmStd, Nat.reduceMul, ↓reduceIte, Nat.reduceAdd, Nat.reduceSub, Nat.reduceEqDiff, Nat.reduceLT, Nat.reduceLeDiff, reduceCtorEq, Int.reduceToNat, Int.reduceLT, Int.reduceLE, Int.reduceEq, Int.reduceNeg, Int.reduceBEq, Int.reduceBNe, String.reduceEq, forall_const, ↓vmDA, vmVA, ↓vmQA, vmR, vmRA, ↓vmSA, vmSV, tyS, nuE, SubA.skip, SubA.refl, fr.2, vbRsk, k1, w1]
          refine LoopA.intro (by kernel_rfl) ?_
          intro ν fr
          have nuE := And.intro hc1 (And.intro (fr.mem (b := c1) (by simp)) (And.intro (fr.mem (b := b0) (by simp)) fr.nu))
          cases k2 : okD x.d.d2 with
          | false =>
            simp (maxDischargeDepth := 16) only [argE_nil, argE_cons, ↓vmD, vmV, vmStd, Nat.reduceMul, ↓reduceIte, Nat.reduceAdd, Nat.reduceSub, Nat.reduceEqDiff, Nat.reduceLT, Nat.reduceLeDiff, reduceCtorEq, Int.reduceToNat, Int.reduceLT, Int.reduceLE, Int.reduceEq, Int.reduceNeg, Int.reduceBEq, Int.reduceBNe, String.reduceEq, forall_const, ↓vmDA, vmVA, ↓vmQA, vmR, vmRA, ↓vmSA, vmSV, tyS, nuE, SubA.skip, SubA.refl, fr.2, vbRsk, k2]
            rw [if_pos (by simp [okDs, k2])] at hx
            exact ⟨by rw [hx], sA2⟩
          | true =>
          simp (maxDischargeDepth := 16) only [argE_nil, argE_cons, ↓vmD, vmV, vmStd, Nat.reduceMul, ↓reduceIte, Nat.reduceAdd, Nat.reduceSub, Nat.reduceEqDiff, Nat.reduceLT, Nat.reduceLeDiff, reduceCtorEq, Int.reduceToNat, Int.reduceLT, Int.reduceLE, Int.reduceEq, Int.reduceNeg, Int.reduceBEq, Int.reduceBNe, String.reduceEq, forall_const, ↓vmDA, vmVA, ↓vmQA, vmR, vmRA, ↓vmSA, vmSV, tyS, nuE, SubA.skip, SubA.refl, fr.2, vbRsk, k2, w2]
          refine LoopA.intro (by kernel_rfl) ?_
          intro ν fr
          have nuE := And.intro hc1 (And.intro (fr.mem (b := c1) (by simp)) (And.intro (fr.mem (b := b0) (by simp)) fr.nu))
          cases k3 : okD x.d.d3 with
          | false =>
            simp (maxDischargeDepth := 16) only [argE_nil, argE_cons, ↓vmD, vmV, vmStd, Nat.reduceMul, ↓reduceIte, Nat.reduceAdd, Nat.reduceSub, Nat.reduceEqDiff, Nat.reduceLT, Nat.reduceLeDiff, reduceCtorEq, Int.reduceToNat, Int.reduceLT, Int.reduceLE, Int.reduceEq, Int.reduceNeg, Int.reduceBEq, Int.reduceBNe, String.reduceEq, forall_const, ↓vmDA, vmVA, ↓vmQA, vmR, vmRA, ↓vmSA, vmSV, tyS, nuE, SubA.skip, SubA.refl, fr.2, vbRsk, k3]
            rw [if_pos (by simp [okDs, k3])] at hx
            exact ⟨by rw [hx], sA2⟩
          | true =>
          simp (maxDischargeDepth := 16) only [argE_nil, argE_cons, ↓vmD, vmV, vmStd, Nat.reduceMul, ↓reduceIte, Nat.reduceAdd, Nat.reduceSub, Nat.reduceEqDiff, Nat.reduceLT, Nat.reduceLeDiff, reduceCtorEq, Int.reduceToNat, Int.reduceLT, Int.reduceLE, Int.reduceEq, Int.reduceNeg, Int.reduceBEq, Int.reduceBNe, String.reduceEq, forall_const, ↓vmDA, vmVA, ↓vmQA, vmR, vmRA, ↓vmSA, vmSV, tyS, nuE, SubA.skip, SubA.refl, fr.2, vbRsk, k3, w3]
          refine LoopA.intro (by kernel_rfl) ?_
          intro ν fr
          have nuE := And.intro hc1 (And.intro (fr.mem (b := c1) (by simp)) (And.intro (fr.mem (b := b0) (by simp)) fr.nu))
          cases k4 : okD x.d.d4 with
          | false =>
            simp (maxDischargeDepth := 16) only [argE_nil, argE_cons, ↓vmD, vmV, vmStd, Nat.reduceMul, ↓reduceIte, Nat.reduceAdd, Nat.reduceSub, Nat.reduceEqDiff, Nat.reduceLT, Nat.reduceLeDiff, reduceCtorEq, Int.reduceToNat, Int.reduceLT, Int.reduceLE, Int.reduceEq, Int.reduceNeg, Int.reduceBEq, Int.reduceBNe, String.reduceEq, forall_const, ↓vmDA, vmVA, ↓vmQA, vmR, vmRA, ↓vmSA, vmSV, tyS, nuE, SubA.skip, SubA.refl, fr.2, vbRsk, k4]
            rw [if_pos (by simp [okDs, k4])] at hx
            exact ⟨by rw [hx], sA2⟩
          | true =>
          simp (maxDischargeDepth := 16) only [argE_nil, argE_cons, ↓vmD, vmV, vmStd, Nat.reduceMul, ↓reduceIte, Nat.reduceAdd, Nat.reduceSub, Nat.reduceEqDiff, Nat.reduceLT, Nat.reduceLeDiff, reduceCtorEq, Int.reduceToNat, Int.reduceLT, Int.reduceLE, Int.reduceEq, Int.reduceNeg, Int.reduceBEq, Int.reduceBNe, String.reduceEq, forall_const, ↓vmDA, vmVA, ↓vmQA, vmR, vmRA, ↓vmSA, vmSV, tyS, nuE, SubA.skip, SubA.refl, fr.2, vbRsk, k4, w4]
          rw [if_neg (by simp [okDs, k1, k2, k3, k4])] at hx
          refine LoopA.intro (by kernel_rfl) ?_
          intro ν fr
          have nuE := And.intro hc1 (And.intro (fr.mem (b := c1) (by simp)) (And.intro (fr.mem (b := b0) (by simp)) fr.nu))
          simp (maxDischargeDepth := 16) only [argE_nil, argE_cons, ↓vmD, vmV, vmStd, Nat.reduceMul, ↓reduceIte, Nat.reduceAdd, Nat.reduceSub, Nat.reduceEqDiff, Nat.reduceLT, Nat.reduceLeDiff, reduceCtorEq, Int.reduceToNat, Int.reduceLT, Int.reduceLE, Int.reduceEq, Int.reduceNeg, Int.reduceBEq, Int.reduceBNe, String.reduceEq, forall_const, ↓vmDA, vmVA, ↓vmQA, vmR, vmRA, ↓vmSA, vmSV, tyS, nuE, SubA.skip, SubA.refl, fr.2, vbRsk, v1', v2', we]
          by_cases k5 : kindsE x.d.cl = 0
          · rw [if_neg (by simpa using k5)] at hx
            rw [if_neg (by simpa using k5)]
            by_cases k6 : kindsE x.d.df = 0
            · rw [if_neg (by simpa using k6)] at hx
              rw [if_neg (by simpa using k6)]
              exact LoopA.at sA2 (LoopA.weak (ih (e + 1) hd' (by omega) hx (fun r hr => by
                rw [htk] at hr
                rcases List.mem_append.1 hr with h | h
                · exact hbt r h
                · simp at h; subst h; have h1 := kindsE_len k5; have h2 := kindsE_len k6; omega)) (by simp only [subE, get_cons, Nat.reduceEqDiff, ↓reduceIte, reduceCtorEq, Nat.reduceAdd, and_self, and_true]) (SubA.refl _))
            · rw [if_pos k6] at hx
              rw [if_pos k6]
              exact ⟨by rw [hx], sA2⟩
          · rw [if_pos k5] at hx
            rw [if_pos k5]
            exact ⟨by rw [hx], sA2⟩
      · have f5 := fr.2 0
        have dst_ : ((ν 0 = b0) = False) ∧ ((b0 = ν 0) = False) := (by simp [nuE]); generalize ν 0 = z0 at dst_  f5 ⊢
        clear nuE fr
        have sA3 : ∀ o, SubA A ((z0, o) :: (b0, Obj.cells (rsC x).toArray 57) :: A) := fun o => SubA.skip (sA.none f5) sA
        refine CallA.newX hfi (sA3 _) ?_
        rintro v B ⟨r, rfl, hrd, hin⟩ hd
        refine ⟨_, hd.right, ?_⟩
        intro ν fr; have nuE := And.intro (fr.mem (b := z0) (by simp)) (And.intro (fr.mem (b := b0) (by simp)) (And.intro dst_ fr.nu))
        simp (maxDischargeDepth := 16) only [argE_nil, argE_cons, ↓vmD, vmV, vmStd, Nat.reduceMul, ↓reduceIte, Nat.reduceAdd, Nat.reduceSub, Nat.reduceEqDiff, Nat.reduceLT, Nat.reduceLeDiff, reduceCtorEq, Int.reduceToNat, Int.reduceLT, Int.reduceLE, Int.reduceEq, Int.reduceNeg, Int.reduceBEq, Int.reduceBNe, String.reduceEq, forall_const, ↓vmDA, vmVA, ↓vmQA, vmR, vmRA, ↓vmSA, vmSV, tyS, nuE, SubA.skip, SubA.refl, fr.2, vbRsk, rsC, sc_i4]
        cases h2 : (findR x.d.code ((L.take e).map Rs.d)).isSome with
        | true =>
          simp (maxDischargeDepth := 16) only [argE_nil, argE_cons, ↓vmD, vmV, vmStd, Nat.reduceMul, ↓reduceIte, Nat.reduceAdd, Nat.reduceSub, Nat.reduceEqDiff, Nat.reduceLT, Nat.reduceLeDiff, reduceCtorEq, Int.reduceToNat, Int.reduceLT, Int.reduceLE, Int.reduceEq, Int.reduceNeg, Int.reduceBEq, Int.reduceBNe, String.reduceEq, forall_const, ↓vmDA, vmVA, ↓vmQA, vmR, vmRA, ↓vmSA, vmSV, tyS, nuE, SubA.skip, SubA.refl, fr.2, vbRsk]
          rw [if_pos h2] at hx
          exact ⟨by rw [hx], sA3 _⟩
        | false =>
          rw [if_neg (by rw [h2]; simp)] at hx
          simp (maxDischargeDepth := 16) only [argE_nil, argE_cons, ↓vmD, vmV, vmStd, Nat.reduceMul, ↓reduceIte, Nat.reduceAdd, Nat.reduceSub, Nat.reduceEqDiff, Nat.reduceLT, Nat.reduceLeDiff, reduceCtorEq, Int.reduceToNat, Int.reduceLT, Int.reduceLE, Int.reduceEq, Int.reduceNeg, Int.reduceBEq, Int.reduceBNe, String.reduceEq, forall_const, ↓vmDA, vmVA, ↓vmQA, vmR, vmRA, ↓vmSA, vmSV, tyS, nuE, SubA.skip, SubA.refl, fr.2, vbRsk]
          have hc1 : ((ν 0 = b0) = False) ∧ ((b0 = ν 0) = False) := by simp [nuE]
          have fc1 : Vm.look A (ν 0) = none := (sA3 _).none (fr.2 0)
          refine LoopA.at (A := (ν 0, (Obj.cells #[.int .i64 x.d.d1, .int .i64 x.d.d2, .int .i64 x.d.d3, .int .i64 x.d.d4] 3)) :: (b0, Obj.cells #[.string (bs x.d.code), .int .i64 x.d.d1, .int .i64 x.d.d2, .int .i64 x.d.d3, .int .i64 x.d.d4, .slice x.p1 x.d.cl.length x.c1, .slice x.p2 x.d.df.length x.c2] 57) :: A) (cons_in (SubA.skip f5 (SubA.refl _))) ?_
          generalize ν 0 = c1 at hc1 fc1 ⊢
          clear nuE fr dst_
          have sA2 : SubA A ((c1, (Obj.cells #[.int .i64 x.d.d1, .int .i64 x.d.d2, .int .i64 x.d.d3, .int .i64 x.d.d4] 3)) :: (b0, Obj.cells #[.string (bs x.d.code), .int .i64 x.d.d1, .int .i64 x.d.d2, .int .i64 x.d.d3, .int .i64 x.d.d4, .slice x.p1 x.d.cl.length x.c1, .slice x.p2 x.d.df.length x.c2] 57) :: A) := SubA.skip fc1 (SubA.skip f0 (SubA.refl _))
          have v1' := v1 _ sA2
          have v2' := v2 _ sA2
          refine LoopA.intro (by kernel_rfl) ?_
          intro ν fr
          have nuE := And.intro hc1 (And.intro (fr.mem (b := c1) (by simp)) (And.intro (fr.mem (b := b0) (by simp)) fr.nu))
          cases k1 : okD x.d.d1 with
          | false =>
            simp (maxDischargeDepth := 16) only [argE_nil, argE_cons, ↓vmD, vmV, vmStd, Nat.reduceMul, ↓reduceIte, Nat.reduceAdd, Nat.reduceSub, Nat.reduceEqDiff, Nat.reduceLT, Nat.reduceLeDiff, reduceCtorEq, Int.reduceToNat, Int.reduceLT, Int.reduceLE, Int.reduceEq, Int.reduceNeg, Int.reduceBEq, Int.reduceBNe, String.reduceEq, forall_const, ↓vmDA, vmVA, ↓vmQA, vmR, vmRA, ↓vmSA, vmSV, tyS, nuE, SubA.skip, SubA.refl, fr.2, vbRsk, k1]
            rw [if_pos (by simp [okDs, k1])] at hx
            exact ⟨by rw [hx], sA2⟩
          | true =>
          simp (maxDischargeDepth := 16) only [argE_nil, argE_cons, ↓vmD, vmV, vmStd, Nat.reduceMul, ↓reduceIte, Nat.reduceAdd, Nat.reduceSub, Nat.reduceEqDiff, Nat.reduceLT, Nat.reduceLeDiff, reduceCtorEq, Int.reduceToNat, Int.reduceLT, Int.reduceLE, Int.reduceEq, Int.reduceNeg, Int.reduceBEq, Int.reduceBNe, String.reduceEq, forall_const, ↓vmDA, vmVA, ↓vmQA, vmR, vmRA, ↓vmSA, vmSV, tyS, nuE, SubA.skip, SubA.refl, fr.2, vbRsk, k1, w1]
          refine LoopA.intro (by kernel_rfl) ?_
          intro ν fr
          have nuE := And.intro hc1 (And.intro (fr.mem (b := c1) (by simp)) (And.intro (fr.mem (b := b0) (by simp)) fr.nu))
          cases k2 : okD x.d.d2 with
          | false =>
            simp (maxDischargeDepth := 16) only [argE_nil, argE_cons, ↓vmD, vmV, vmStd, Nat.reduceMul, ↓reduceIte, Nat.reduceAdd, Nat.reduceSub, Nat.reduceEqDiff, Nat.reduceLT, Nat.reduceLeDiff, reduceCtorEq, Int.reduceToNat, Int.reduceLT, Int.reduceLE, Int.reduceEq, Int.reduceNeg, Int.reduceBEq, Int.reduceBNe, String.reduceEq, forall_const, ↓vmDA, vmVA, ↓vmQA, vmR, vmRA, ↓vmSA, vmSV, tyS, nuE, SubA.skip, SubA.refl, fr.2, vbRsk, k2]
            rw [if_pos (by simp [okDs, k2])] at hx
            exact ⟨by rw [hx], sA2⟩
          | true =>
          simp (maxDischargeDepth := 16) only [argE_nil, argE_cons, ↓vmD, vmV, vmStd, Nat.reduceMul, ↓reduceIte, Nat.reduceAdd, Nat.reduceSub, Nat.reduceEqDiff, Nat.reduceLT, Nat.reduceLeDiff, reduceCtorEq, Int.reduceToNat, Int.reduceLT, Int.reduceLE, Int.reduceEq, Int.reduceNeg, Int.reduceBEq, Int.reduceBNe, String.reduceEq, forall_const, ↓vmDA, vmVA, ↓vmQA, vmR, vmRA, ↓vmSA, vmSV, tyS, nuE, SubA.skip, SubA.refl, fr.2, vbRsk, k2, w2]
          refine LoopA.intro (by kernel_rfl) ?_
          intro ν fr
          have nuE := And.intro hc1 (And.intro (fr.mem (b := c1) (by simp)) (And.intro (fr.mem (b := b0) (by simp)) fr.nu))
          cases k3 : okD x.d.d3 with
          | false =>
            simp (maxDischargeDepth := 16) only [argE_nil, argE_cons, ↓vmD, vmV, vmStd, Nat.reduceMul, ↓reduceIte, Nat.reduceAdd, Nat.reduceSub, Nat.reduceEqDiff, Nat.reduceLT, Nat.reduceLeDiff, reduceCtorEq, Int.reduceToNat, Int.reduceLT, Int.reduceLE, Int.reduceEq, Int.reduceNeg, Int.reduceBEq, Int.reduceBNe, String.reduceEq, forall_const, ↓vmDA, vmVA, ↓vmQA, vmR, vmRA, ↓vmSA, vmSV, tyS, nuE, SubA.skip, SubA.refl, fr.2, vbRsk, k3]
            rw [if_pos (by simp [okDs, k3])] at hx
            exact ⟨by rw [hx], sA2⟩
          | true =>
          simp (maxDischargeDepth := 16) only [argE_nil, argE_cons, ↓vmD, vmV, vmStd, Nat.reduceMul, ↓reduceIte, Nat.reduceAdd, Nat.reduceSub, Nat.reduceEqDiff, Nat.reduceLT, Nat.reduceLeDiff, reduceCtorEq, Int.reduceToNat, Int.reduceLT, Int.reduceLE, Int.reduceEq, Int.reduceNeg, Int.reduceBEq, Int.reduceBNe, String.reduceEq, forall_const, ↓vmDA, vmVA, ↓vmQA, vmR, vmRA, ↓vmSA, vmSV, tyS, nuE, SubA.skip, SubA.refl, fr.2, vbRsk, k3, w3]
          refine LoopA.intro (by kernel_rfl) ?_
          intro ν fr
          have nuE := And.intro hc1 (And.intro (fr.mem (b := c1) (by simp)) (And.intro (fr.mem (b := b0) (by simp)) fr.nu))
          cases k4 : okD x.d.d4 with
          | false =>
            simp (maxDischargeDepth := 16) only [argE_nil, argE_cons, ↓vmD, vmV, vmStd, Nat.reduceMul, ↓reduceIte, Nat.reduceAdd, Nat.reduceSub, Nat.reduceEqDiff, Nat.reduceLT, Nat.reduceLeDiff, reduceCtorEq, Int.reduceToNat, Int.reduceLT, Int.reduceLE, Int.reduceEq, Int.reduceNeg, Int.reduceBEq, Int.reduceBNe, String.reduceEq, forall_const, ↓vmDA, vmVA, ↓vmQA, vmR, vmRA, ↓vmSA, vmSV, tyS, nuE, SubA.skip, SubA.refl, fr.2, vbRsk, k4]
            rw [if_pos (by simp [okDs, k4])] at hx
            exact ⟨by rw [hx], sA2⟩
          | true =>
          simp (maxDischargeDepth := 16) only [argE_nil, argE_cons, ↓vmD, vmV, vmStd, Nat.reduceMul, ↓reduceIte, Nat.reduceAdd, Nat.reduceSub, Nat.reduceEqDiff, Nat.reduceLT, Nat.reduceLeDiff, reduceCtorEq, Int.reduceToNat, Int.reduceLT, Int.reduceLE, Int.reduceEq, Int.reduceNeg, Int.reduceBEq, Int.reduceBNe, String.reduceEq, forall_const, ↓vmDA, vmVA, ↓vmQA, vmR, vmRA, ↓vmSA, vmSV, tyS, nuE, SubA.skip, SubA.refl, fr.2, vbRsk, k4, w4]
          rw [if_neg (by simp [okDs, k1, k2, k3, k4])] at hx
          refine LoopA.intro (by kernel_rfl) ?_
          intro ν fr
          have nuE := And.intro hc1 (And.intro (fr.mem (b := c1) (by simp)) (And.intro (fr.mem (b := b0) (by simp)) fr.nu))
          simp (maxDischargeDepth := 16) only [argE_nil, argE_cons, ↓vmD, vmV, vmStd, Nat.reduceMul, ↓reduceIte, Nat.reduceAdd, Nat.reduceSub, Nat.reduceEqDiff, Nat.reduceLT, Nat.reduceLeDiff, reduceCtorEq, Int.reduceToNat, Int.reduceLT, Int.reduceLE, Int.reduceEq, Int.reduceNeg, Int.reduceBEq, Int.reduceBNe, String.reduceEq, forall_const, ↓vmDA, vmVA, ↓vmQA, vmR, vmRA, ↓vmSA, vmSV, tyS, nuE, SubA.skip, SubA.refl, fr.2, vbRsk, v1', v2', we]
          by_cases k5 : kindsE x.d.cl = 0
          · rw [if_neg (by simpa using k5)] at hx
            rw [if_neg (by simpa using k5)]
            by_cases k6 : kindsE x.d.df = 0
            · rw [if_neg (by simpa using k6)] at hx
              rw [if_neg (by simpa using k6)]
              exact LoopA.at sA2 (LoopA.weak (ih (e + 1) hd' (by omega) hx (fun r hr => by
                rw [htk] at hr
                rcases List.mem_append.1 hr with h | h
                · exact hbt r h
                · simp at h; subst h; have h1 := kindsE_len k5; have h2 := kindsE_len k6; omega)) (by simp only [subE, get_cons, Nat.reduceEqDiff, ↓reduceIte, reduceCtorEq, Nat.reduceAdd, and_self, and_true]) (SubA.refl _))
            · rw [if_pos k6] at hx
              rw [if_pos k6]
              exact ⟨by rw [hx], sA2⟩
          · rw [if_pos k5] at hx
            rw [if_pos k5]
            exact ⟨by rw [hx], sA2⟩
theorem chkR_w (A : AH) (L : List Rs) (p : Option Addr) (cap : Nat) (hL : RsR A p L) (hl : L.length ≤ cap ∧ cap ≤ 9223372036854775807) (B_ : AH) (hB_ : SubA A B_) : valA Tryz.prog 37 #[.slice p L.length cap] B_ = some (.int .i64 (chkE (L.map Rs.d))) := valA_eq (pureA_at (by kernel_rfl) (chkR_h A L p cap hL hl) hB_)
theorem chkR_v (A : AH) (L : List Rs) (p : Option Addr) (cap : Nat) (hL : RsR A p L) (hl : L.length ≤ cap ∧ cap ≤ 9223372036854775807) : valA Tryz.prog 37 #[.slice p L.length cap] A = some (.int .i64 (chkE (L.map Rs.d))) := valA_eq (pureA_at (by kernel_rfl) (chkR_h A L p cap hL hl) (SubA.refl _))
end Go.Proofs.YtiholbpchhifiaaGreatDoor
