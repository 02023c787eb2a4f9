/-
Reasons: the test of smallness; the law of days.
Conditions: none.
-/
import Derived.Test.YtamiclgnehfhpaaDoorAwk
import Derived.Test.YtamiclgnehfhpaaDoorRsX
namespace Go.Proofs.YtamiclgnehfhpaaDoor
open Go.Vm
set_option linter.unusedSimpArgs false
set_option linter.unusedVariables false
set_option maxHeartbeats 4000000
set_option maxRecDepth 20000
theorem vbLsm : type_of% (And.intro @slIndexByte_v (And.intro @indexByte_v (And.intro @indexRune_v (And.intro @containsRune_v (And.intro @slHasPrefix_v (And.intro @hasPrefix_v (And.intro @classOf_v (And.intro @isWordByte_v (And.intro @letter_v (And.intro @digit_v (And.intro @wordAt_v (And.intro @rword_v (And.intro @skip_v (And.intro @rskip_v (And.intro @number_v (And.intro @rnumber_v (And.intro @literal_v (And.intro @rtext_v (And.intro @lexemeAt_v (And.intro @rlexeme_v (And.intro @isName_v (And.intro @risName_v (And.intro @possible_v (And.intro @days_v (And.intro @due_v (And.intro @rkind_v (And.intro @rdays_v (And.intro @rdaysS_v (And.intro @rdue_v (And.intro @soft_usd (And.intro @soft_ust (And.intro @cnvN_pu (And.intro @cnvN_up (@eqS_pp)))))))))))))))))))))))))))))))))) := And.intro @slIndexByte_v (And.intro @indexByte_v (And.intro @indexRune_v (And.intro @containsRune_v (And.intro @slHasPrefix_v (And.intro @hasPrefix_v (And.intro @classOf_v (And.intro @isWordByte_v (And.intro @letter_v (And.intro @digit_v (And.intro @wordAt_v (And.intro @rword_v (And.intro @skip_v (And.intro @rskip_v (And.intro @number_v (And.intro @rnumber_v (And.intro @literal_v (And.intro @rtext_v (And.intro @lexemeAt_v (And.intro @rlexeme_v (And.intro @isName_v (And.intro @risName_v (And.intro @possible_v (And.intro @days_v (And.intro @due_v (And.intro @rkind_v (And.intro @rdays_v (And.intro @rdaysS_v (And.intro @rdue_v (And.intro @soft_usd (And.intro @soft_ust (And.intro @cnvN_pu (And.intro @cnvN_up (@eqS_pp)))))))))))))))))))))))))))))))))
theorem smallP_h (A : AH) (L : List Rs) (p : Option Addr) (cap : Nat) (hL : RsR A p L) : CallA Tryd.prog 9 #[.slice p L.length cap] A (fun u_ A_ => SubA A A_ ∧ ∃ b, u_ = .bool b ∧ (b = true → L.length ≤ 40 ∧ ∀ r ∈ L, r.d.cl.length ≤ 12 ∧ r.d.df.length ≤ 12)) := by
  refine callA_of_denA ⟨Tryd.prog, 9, Tryd.f9, 80, [0, 2, 3, 4, 5], [], [], _⟩ (args := [_]) Tryd.func9 rfl (by kernel_rfl) Tryd.ntmps9 (by simp) (by kernel_rfl) ?_
  intro ν fr; have nuE := fr.nu
  by_cases h1 : 40 < L.length
  · have h1' : ((40 : Int) < (L.length : Int)) = True := eq_true (by omega)
    simp (maxDischargeDepth := 16) only [argE_nil, argE_cons, ↓vmD, vmV, vmStd, Nat.reduceMul, ↓reduceIte, Nat.reduceAdd, Nat.reduceSub, Nat.reduceEqDiff, Nat.reduceLT, Nat.reduceLeDiff, reduceCtorEq, Int.reduceToNat, Int.reduceLT, Int.reduceLE, Int.reduceEq, Int.reduceNeg, Int.reduceBEq, Int.reduceBNe, String.reduceEq, forall_const, ↓vmDA, vmVA, ↓vmQA, vmR, vmRA, ↓vmSA, vmSV, tyS, nuE, SubA.skip, SubA.refl, fr.2, vbLsm, ↓sA_usd, ↓sA_ust, h1']
    exact ⟨_, rfl, fun h => by cases h⟩
  have h1' : ((40 : Int) < (L.length : Int)) = False := eq_false (by omega)
  simp (maxDischargeDepth := 16) only [argE_nil, argE_cons, ↓vmD, vmV, vmStd, Nat.reduceMul, ↓reduceIte, Nat.reduceAdd, Nat.reduceSub, Nat.reduceEqDiff, Nat.reduceLT, Nat.reduceLeDiff, reduceCtorEq, Int.reduceToNat, Int.reduceLT, Int.reduceLE, Int.reduceEq, Int.reduceNeg, Int.reduceBEq, Int.reduceBNe, String.reduceEq, forall_const, ↓vmDA, vmVA, ↓vmQA, vmR, vmRA, ↓vmSA, vmSV, tyS, nuE, SubA.skip, SubA.refl, fr.2, vbLsm, ↓sA_usd, ↓sA_ust, h1']
  obtain ⟨e, l, he, hd, hle, hin⟩ : ∃ (e : Nat) (l : List Rs), e = 0 ∧ l = L.drop e ∧ e ≤ L.length ∧ ∀ r ∈ L.take e, r.d.cl.length ≤ 12 ∧ r.d.df.length ≤ 12 := ⟨0, L, rfl, rfl, by omega, fun r hr => by simp at hr⟩
  rw [show (3, some (Value.int .i64 0)) = (3, some (Value.int .i64 (e : Int))) by rw [he]; rfl]
  clear he nuE fr
  induction l generalizing e with
  | nil =>
    obtain ⟨hn1, hn2⟩ := drop_nil hd hle
    have lt : ((e : Int) < (L.length : Int)) = False := eq_false (by omega)
    rw [hn2] at hin
    refine LoopA.intro (by kernel_rfl) ?_
    intro ν fr; have nuE := fr.nu
    simp (maxDischargeDepth := 16) only [argE_nil, argE_cons, ↓vmD, vmV, vmStd, Nat.reduceMul, ↓reduceIte, Nat.reduceAdd, Nat.reduceSub, Nat.reduceEqDiff, Nat.reduceLT, Nat.reduceLeDiff, reduceCtorEq, Int.reduceToNat, Int.reduceLT, Int.reduceLE, Int.reduceEq, Int.reduceNeg, Int.reduceBEq, Int.reduceBNe, String.reduceEq, forall_const, ↓vmDA, vmVA, ↓vmQA, vmR, vmRA, ↓vmSA, vmSV, tyS, nuE, SubA.skip, SubA.refl, fr.2, vbLsm, ↓sA_usd, ↓sA_ust, lt]
    exact ⟨true, rfl, fun _ => ⟨by omega, hin⟩⟩
  | cons x l ih =>
    obtain ⟨ha, hlt, hd', htk⟩ := drop_some hd
    have lt : ((e : Int) < (L.length : Int)) = True := eq_true (by omega)
    have we : IntKind.i64.wrap ((e : Int) + 1) = ((e + 1 : Nat) : Int) := by rw [w_i64 (by omega) (by omega)]; omega
    obtain ⟨bk, off, cs, ty, fr0, hp0, hbk, hcr, hcc⟩ := hL.1.at ha
    have hxr := hL.2 x (List.mem_of_getElem? ha)
    have hc0 : cs[off + e * 7]? = some (.string (bs x.d.code)) := hcc 0 _ rfl
    have hc5 : cs[off + e * 7 + 5]? = some (.slice x.p1 x.d.cl.length x.c1) := hcc 5 _ rfl
    have hc6 : cs[off + e * 7 + 6]? = some (.slice x.p2 x.d.df.length x.c2) := hcc 6 _ rfl
    have li : ((e : Int) < 0) = False := eq_false (by omega)
    subst hp0
    refine LoopA.intro (by kernel_rfl) ?_
    intro ν fr; have nuE := fr.nu
    by_cases k1 : (100 : Int) < (x.d.code.length : Int)
    · simp (maxDischargeDepth := 16) only [argE_nil, argE_cons, ↓vmD, vmV, vmStd, Nat.reduceMul, ↓reduceIte, Nat.reduceAdd, Nat.reduceSub, Nat.reduceEqDiff, Nat.reduceLT, Nat.reduceLeDiff, reduceCtorEq, Int.reduceToNat, Int.reduceLT, Int.reduceLE, Int.reduceEq, Int.reduceNeg, Int.reduceBEq, Int.reduceBNe, String.reduceEq, forall_const, ↓vmDA, vmVA, ↓vmQA, vmR, vmRA, ↓vmSA, vmSV, tyS, nuE, SubA.skip, SubA.refl, fr.2, vbLsm, ↓sA_usd, ↓sA_ust, lt, li, hbk, hc0, hc5, hc6, bs_size, eq_true k1]
      exact ⟨_, rfl, fun h => by cases h⟩
    by_cases k2 : (12 : Int) < (x.d.cl.length : Int)
    · simp (maxDischargeDepth := 16) only [argE_nil, argE_cons, ↓vmD, vmV, vmStd, Nat.reduceMul, ↓reduceIte, Nat.reduceAdd, Nat.reduceSub, Nat.reduceEqDiff, Nat.reduceLT, Nat.reduceLeDiff, reduceCtorEq, Int.reduceToNat, Int.reduceLT, Int.reduceLE, Int.reduceEq, Int.reduceNeg, Int.reduceBEq, Int.reduceBNe, String.reduceEq, forall_const, ↓vmDA, vmVA, ↓vmQA, vmR, vmRA, ↓vmSA, vmSV, tyS, nuE, SubA.skip, SubA.refl, fr.2, vbLsm, ↓sA_usd, ↓sA_ust, lt, li, hbk, hc0, hc5, hc6, bs_size, eq_false k1, eq_true k2]
      exact ⟨_, rfl, fun h => by cases h⟩
    by_cases k3 : (12 : Int) < (x.d.df.length : Int)
    · simp (maxDischargeDepth := 16) only [argE_nil, argE_cons, ↓vmD, vmV, vmStd, Nat.reduceMul, ↓reduceIte, Nat.reduceAdd, Nat.reduceSub, Nat.reduceEqDiff, Nat.reduceLT, Nat.reduceLeDiff, reduceCtorEq, Int.reduceToNat, Int.reduceLT, Int.reduceLE, Int.reduceEq, Int.reduceNeg, Int.reduceBEq, Int.reduceBNe, String.reduceEq, forall_const, ↓vmDA, vmVA, ↓vmQA, vmR, vmRA, ↓vmSA, vmSV, tyS, nuE, SubA.skip, SubA.refl, fr.2, vbLsm, ↓sA_usd, ↓sA_ust, lt, li, hbk, hc0, hc5, hc6, bs_size, eq_false k1, eq_false k2, eq_true k3]
      exact ⟨_, rfl, fun h => by cases h⟩
    simp (maxDischargeDepth := 16) only [argE_nil, argE_cons, ↓vmD, vmV, vmStd, Nat.reduceMul, ↓reduceIte, Nat.reduceAdd, Nat.reduceSub, Nat.reduceEqDiff, Nat.reduceLT, Nat.reduceLeDiff, reduceCtorEq, Int.reduceToNat, Int.reduceLT, Int.reduceLE, Int.reduceEq, Int.reduceNeg, Int.reduceBEq, Int.reduceBNe, String.reduceEq, forall_const, ↓vmDA, vmVA, ↓vmQA, vmR, vmRA, ↓vmSA, vmSV, tyS, nuE, SubA.skip, SubA.refl, fr.2, vbLsm, ↓sA_usd, ↓sA_ust, lt, li, hbk, hc0, hc5, hc6, bs_size, eq_false k1, eq_false k2, eq_false k3]
    clear nuE fr
    obtain ⟨i, m, hi, hdi, hli⟩ : ∃ (i : Nat) (m : List Txt), i = 0 ∧ m = x.d.cl.drop i ∧ i ≤ x.d.cl.length := ⟨0, x.d.cl, rfl, rfl, by omega⟩
    rw [show (4, some (Value.int .i64 0)) = (4, some (Value.int .i64 (i : Int))) by rw [hi]; rfl]
    clear hi
    induction m generalizing i with
    | cons y m ih1 =>
      obtain ⟨hay, hlty, hdy, _⟩ := drop_some hdi
      have lty : ((i : Int) < (x.d.cl.length : Int)) = True := eq_true (by omega)
      have liy : ((i : Int) < 0) = False := eq_false (by omega)
      have wi : IntKind.i64.wrap ((i : Int) + 1) = ((i + 1 : Nat) : Int) := by rw [w_i64 (by omega) (by omega)]; omega
      obtain ⟨b2, off2, cs2, ty2, fr2, hp2, hbk2, hcr2, hcc2⟩ := hxr.1.1.at hay
      have hcy : cs2[off2 + i * 1]? = some (.string (bs y)) := hcc2 0 _ rfl
      rw [hp2] at hc5
      refine LoopA.intro (by kernel_rfl) ?_
      intro ν fr; have nuE := fr.nu
      by_cases k4 : (100 : Int) < (y.length : Int)
      · simp (maxDischargeDepth := 16) only [argE_nil, argE_cons, ↓vmD, vmV, vmStd, Nat.reduceMul, ↓reduceIte, Nat.reduceAdd, Nat.reduceSub, Nat.reduceEqDiff, Nat.reduceLT, Nat.reduceLeDiff, reduceCtorEq, Int.reduceToNat, Int.reduceLT, Int.reduceLE, Int.reduceEq, Int.reduceNeg, Int.reduceBEq, Int.reduceBNe, String.reduceEq, forall_const, ↓vmDA, vmVA, ↓vmQA, vmR, vmRA, ↓vmSA, vmSV, tyS, nuE, SubA.skip, SubA.refl, fr.2, vbLsm, ↓sA_usd, ↓sA_ust, lt, li, hbk, hc5, lty, liy, hbk2, hcy, bs_size, eq_true k4]
        exact ⟨_, rfl, fun h => by cases h⟩
      · simp (maxDischargeDepth := 16) only [argE_nil, argE_cons, ↓vmD, vmV, vmStd, Nat.reduceMul, ↓reduceIte, Nat.reduceAdd, Nat.reduceSub, Nat.reduceEqDiff, Nat.reduceLT, Nat.reduceLeDiff, reduceCtorEq, Int.reduceToNat, Int.reduceLT, Int.reduceLE, Int.reduceEq, Int.reduceNeg, Int.reduceBEq, Int.reduceBNe, String.reduceEq, forall_const, ↓vmDA, vmVA, ↓vmQA, vmR, vmRA, ↓vmSA, vmSV, tyS, nuE, SubA.skip, SubA.refl, fr.2, vbLsm, ↓sA_usd, ↓sA_ust, lt, li, hbk, hc5, lty, liy, hbk2, hcy, bs_size, eq_false k4, wi]
        rw [← hp2] at hc5
        exact LoopA.weak (ih1 (i + 1) hdy (by omega)) (by simp only [subE, get_cons, Nat.reduceEqDiff, ↓reduceIte, reduceCtorEq, Nat.reduceAdd, and_self, and_true]) (SubA.refl _)
    | nil =>
      obtain ⟨hm1, hm2⟩ := drop_nil hdi hli
      have lty : ((i : Int) < (x.d.cl.length : Int)) = False := eq_false (by omega)
      refine LoopA.intro (by kernel_rfl) ?_
      intro ν fr; have nuE := fr.nu
      simp (maxDischargeDepth := 16) only [argE_nil, argE_cons, ↓vmD, vmV, vmStd, Nat.reduceMul, ↓reduceIte, Nat.reduceAdd, Nat.reduceSub, Nat.reduceEqDiff, Nat.reduceLT, Nat.reduceLeDiff, reduceCtorEq, Int.reduceToNat, Int.reduceLT, Int.reduceLE, Int.reduceEq, Int.reduceNeg, Int.reduceBEq, Int.reduceBNe, String.reduceEq, forall_const, ↓vmDA, vmVA, ↓vmQA, vmR, vmRA, ↓vmSA, vmSV, tyS, nuE, SubA.skip, SubA.refl, fr.2, vbLsm, ↓sA_usd, ↓sA_ust, lt, li, hbk, hc5, lty]
      clear nuE fr hm1 hm2 lty hdi hli
      obtain ⟨i, m, hi, hdi, hli⟩ : ∃ (i : Nat) (m : List Txt), i = 0 ∧ m = x.d.df.drop i ∧ i ≤ x.d.df.length := ⟨0, x.d.df, rfl, rfl, by omega⟩
      rw [show (5, some (Value.int .i64 0)) = (5, some (Value.int .i64 (i : Int))) by rw [hi]; rfl]
      clear hi
      induction m generalizing i with
      | cons y m ih1 =>
        obtain ⟨hay, hlty, hdy, _⟩ := drop_some hdi
        have lty : ((i : Int) < (x.d.df.length : Int)) = True := eq_true (by omega)
        have liy : ((i : Int) < 0) = False := eq_false (by omega)
        have wi : IntKind.i64.wrap ((i : Int) + 1) = ((i + 1 : Nat) : Int) := by rw [w_i64 (by omega) (by omega)]; omega
        obtain ⟨b2, off2, cs2, ty2, fr2, hp2, hbk2, hcr2, hcc2⟩ := hxr.2.1.at hay
        have hcy : cs2[off2 + i * 1]? = some (.string (bs y)) := hcc2 0 _ rfl
        rw [hp2] at hc6
        refine LoopA.intro (by kernel_rfl) ?_
        intro ν fr; have nuE := fr.nu
        by_cases k4 : (100 : Int) < (y.length : Int)
        · simp (maxDischargeDepth := 16) only [argE_nil, argE_cons, ↓vmD, vmV, vmStd, Nat.reduceMul, ↓reduceIte, Nat.reduceAdd, Nat.reduceSub, Nat.reduceEqDiff, Nat.reduceLT, Nat.reduceLeDiff, reduceCtorEq, Int.reduceToNat, Int.reduceLT, Int.reduceLE, Int.reduceEq, Int.reduceNeg, Int.reduceBEq, Int.reduceBNe, String.reduceEq, forall_const, ↓vmDA, vmVA, ↓vmQA, vmR, vmRA, ↓vmSA, vmSV, tyS, nuE, SubA.skip, SubA.refl, fr.2, vbLsm, ↓sA_usd, ↓sA_ust, lt, li, hbk, hc6, lty, liy, hbk2, hcy, bs_size, eq_true k4]
          exact ⟨_, rfl, fun h => by cases h⟩
        · simp (maxDischargeDepth := 16) only [argE_nil, argE_cons, ↓vmD, vmV, vmStd, Nat.reduceMul, ↓reduceIte, Nat.reduceAdd, Nat.reduceSub, Nat.reduceEqDiff, Nat.reduceLT, Nat.reduceLeDiff, reduceCtorEq, Int.reduceToNat, Int.reduceLT, Int.reduceLE, Int.reduceEq, Int.reduceNeg, Int.reduceBEq, Int.reduceBNe, String.reduceEq, forall_const, ↓vmDA, vmVA, ↓vmQA, vmR, vmRA, ↓vmSA, vmSV, tyS, nuE, SubA.skip, SubA.refl, fr.2, vbLsm, ↓sA_usd, ↓sA_ust, lt, li, hbk, hc6, lty, liy, hbk2, hcy, bs_size, eq_false k4, wi]
          rw [← hp2] at hc6
          exact LoopA.weak (ih1 (i + 1) hdy (by omega)) (by simp only [subE, get_cons, Nat.reduceEqDiff, ↓reduceIte, reduceCtorEq, Nat.reduceAdd, and_self, and_true]) (SubA.refl _)
      | nil =>
        obtain ⟨hm1, hm2⟩ := drop_nil hdi hli
        have lty : ((i : Int) < (x.d.df.length : Int)) = False := eq_false (by omega)
        refine LoopA.intro (by kernel_rfl) ?_
        intro ν fr; have nuE := fr.nu
        simp (maxDischargeDepth := 16) only [argE_nil, argE_cons, ↓vmD, vmV, vmStd, Nat.reduceMul, ↓reduceIte, Nat.reduceAdd, Nat.reduceSub, Nat.reduceEqDiff, Nat.reduceLT, Nat.reduceLeDiff, reduceCtorEq, Int.reduceToNat, Int.reduceLT, Int.reduceLE, Int.reduceEq, Int.reduceNeg, Int.reduceBEq, Int.reduceBNe, String.reduceEq, forall_const, ↓vmDA, vmVA, ↓vmQA, vmR, vmRA, ↓vmSA, vmSV, tyS, nuE, SubA.skip, SubA.refl, fr.2, vbLsm, ↓sA_usd, ↓sA_ust, lt, li, hbk, hc6, lty, we]
        refine LoopA.weak (ih (e + 1) hd' (by omega) (fun r hr => ?_)) (by simp only [subE, get_cons, Nat.reduceEqDiff, ↓reduceIte, reduceCtorEq, Nat.reduceAdd, and_self, and_true]) (SubA.refl _)
        rw [htk] at hr
        rcases List.mem_append.1 hr with h | h
        · exact hin r h
        · simp at h; subst h; exact ⟨by omega, by omega⟩

theorem small_n (A : AH) (L : List Rs) (p : Option Addr) (cap : Nat) (hL : RsR A p L) : CallA Tryd.prog 9 #[.slice p L.length cap] A (fun u D => ∃ v B, u = v ∧ (∃ b, v = .bool b ∧ (b = true → L.length ≤ 40 ∧ ∀ r ∈ L, r.d.cl.length ≤ 12 ∧ r.d.df.length ≤ 12)) ∧ Dis B A ∧ SubA (B ++ A) D) :=
  (smallP_h A L p cap hL).mono fun u D ⟨h1, h2⟩ => ⟨u, [], rfl, h2, Dis.nil _, h1⟩
theorem one_rs {r : Rs} {A : AH} {b : Nat} (hin : InR A r) (hb : Vm.look A b = none) : RsR ((b, rC r) :: A) (some ⟨b, 0, none⟩) [r] := by
  have o : OwnL rsC 7 27 (.slice (some ⟨b, 0, none⟩) 1 1) [(b, .cells (rsC r).toArray 27)] [r] := .inl (OwnA.at (n := 1) (by simp [rsC]) (by simp [maxLen]))
  obtain ⟨p, cap, e, _, hs⟩ := o.read rsC_len
  cases e
  refine ⟨hs.mono (SubA.left [_] _), fun z hz => ?_⟩
  simp at hz
  subst hz
  exact hin.mono (SubA.fresh hb (SubA.refl _))
theorem awk_n (A : AH) (hT : TabA A) : CallA Tryd.prog 10 #[] A fun u D => ∃ v B, u = v ∧ v = .bool true ∧ Dis B A ∧ SubA (B ++ A) D :=
  (awk44_h A hT).mono fun u D ⟨h1, h2⟩ => ⟨u, [], rfl, h1, Dis.nil _, h2⟩
theorem pure_n {P : Program} {g : FuncId} {args : Array Value} {v : Value} {A : AH} (h : CallA P g args A fun u D => u = v ∧ SubA A D) : CallA P g args A fun u D => ∃ w B, u = w ∧ w = v ∧ Dis B A ∧ SubA (B ++ A) D :=
  h.mono fun u D ⟨h1, h2⟩ => ⟨u, [], rfl, h1, Dis.nil _, h2⟩
theorem daysLaw_h (A : AH) (hT : TabA A) (r : Rs) (st dt : Int) (hin : InR A r) : CallA Tryd.prog 4 #[.agg #[.string (bs r.d.code), .int .i64 r.d.d1, .int .i64 r.d.d2, .int .i64 r.d.d3, .int .i64 r.d.d4, .slice r.p1 r.d.cl.length r.c1, .slice r.p2 r.d.df.length r.c2], .int .i64 st, .int .i64 dt] A (fun u_ A_ => u_ = .bool true ∧ SubA A A_) := by
  refine callA_of_denA ⟨Tryd.prog, 4, Tryd.f4, 76, [0, 1, 2, 3, 6, 7, 8, 9, 10, 11, 12, 13, 14], [9, 10, 23, 24, 22], [], _⟩ (args := [_, _, _]) Tryd.func4 rfl (by kernel_rfl) Tryd.ntmps4 (by simp) (by kernel_rfl) ?_
  intro ν fr; have nuE := fr.nu
  have f0 := fr.2 0
  simp (maxDischargeDepth := 16) only [argE_nil, argE_cons, ↓vmD, vmV, vmStd, Nat.reduceMul, ↓reduceIte, Nat.reduceAdd, Nat.reduceSub, Nat.reduceEqDiff, Nat.reduceLT, Nat.reduceLeDiff, reduceCtorEq, Int.reduceToNat, Int.reduceLT, Int.reduceLE, Int.reduceEq, Int.reduceNeg, Int.reduceBEq, Int.reduceBNe, String.reduceEq, forall_const, ↓vmDA, vmVA, ↓vmQA, vmR, vmRA, ↓vmSA, vmSV, tyS, nuE, SubA.skip, SubA.refl, fr.2, vbLsm, ↓sA_usd, ↓sA_ust, sc_rs]
  have f1 : Vm.look ((ν 0, rC r) :: A) (ν 1) = none := look_c1 (by simp [nuE]) (fr.2 1)
  have dst_ : ((ν 0 = ν 1) = False) ∧ ((ν 1 = ν 0) = False) := (by simp [nuE]); generalize ν 0 = n0 at dst_  f0 f1 ⊢; generalize ν 1 = n1 at dst_  f0 f1 ⊢
  clear nuE fr
  have sA : ∀ o o', SubA A ((n1, o) :: (n0, o') :: A) := fun o o' => SubA.fresh (look_c1 (by simp [dst_]) ((SubA.skip f0 (SubA.refl A)).none f1)) (SubA.fresh f0 (SubA.refl _))
  have hR := one_rs (b := n1) (hin.mono (SubA.fresh (o := rC r) f0 (SubA.refl _))) f1
  refine CallA.newX (small_n _ [r] (some ⟨n1, 0, none⟩) 1 hR) (SubA.refl _) ?_
  rintro v B ⟨b, rfl, hb⟩ hd
  refine ⟨(n0, rC r) :: A, SubA.trans (SubA.skip f1 (SubA.refl _)) hd.right, ?_⟩
  simp only [rC, rsC]
  intro ν fr; have nuE := And.intro (fr.mem (b := n0) (by simp)) (fr.nu)
  cases b with
  | false =>
    simp (maxDischargeDepth := 16) only [argE_nil, argE_cons, ↓vmD, vmV, vmStd, Nat.reduceMul, ↓reduceIte, Nat.reduceAdd, Nat.reduceSub, Nat.reduceEqDiff, Nat.reduceLT, Nat.reduceLeDiff, reduceCtorEq, Int.reduceToNat, Int.reduceLT, Int.reduceLE, Int.reduceEq, Int.reduceNeg, Int.reduceBEq, Int.reduceBNe, String.reduceEq, forall_const, ↓vmDA, vmVA, ↓vmQA, vmR, vmRA, ↓vmSA, vmSV, tyS, nuE, SubA.skip, SubA.refl, fr.2, vbLsm, ↓sA_usd, ↓sA_ust]
    refine CallA.newX (awk_n A hT) (SubA.skip f0 (SubA.refl _)) ?_
    rintro v B rfl hd
    refine ⟨A, SubA.trans (SubA.skip f0 (SubA.refl _)) hd.right, ?_⟩
    clear nuE fr
    intro ν fr; have nuE := fr.nu
    simp (maxDischargeDepth := 16) only [argE_nil, argE_cons, ↓vmD, vmV, vmStd, Nat.reduceMul, ↓reduceIte, Nat.reduceAdd, Nat.reduceSub, Nat.reduceEqDiff, Nat.reduceLT, Nat.reduceLeDiff, reduceCtorEq, Int.reduceToNat, Int.reduceLT, Int.reduceLE, Int.reduceEq, Int.reduceNeg, Int.reduceBEq, Int.reduceBNe, String.reduceEq, forall_const, ↓vmDA, vmVA, ↓vmQA, vmR, vmRA, ↓vmSA, vmSV, tyS, nuE, SubA.skip, SubA.refl, fr.2, vbLsm, ↓sA_usd, ↓sA_ust]
  | true =>
  have hbg := (hb rfl).2 r (by simp)
  simp (maxDischargeDepth := 16) only [argE_nil, argE_cons, ↓vmD, vmV, vmStd, Nat.reduceMul, ↓reduceIte, Nat.reduceAdd, Nat.reduceSub, Nat.reduceEqDiff, Nat.reduceLT, Nat.reduceLeDiff, reduceCtorEq, Int.reduceToNat, Int.reduceLT, Int.reduceLE, Int.reduceEq, Int.reduceNeg, Int.reduceBEq, Int.reduceBNe, String.reduceEq, forall_const, ↓vmDA, vmVA, ↓vmQA, vmR, vmRA, ↓vmSA, vmSV, tyS, nuE, SubA.skip, SubA.refl, fr.2, vbLsm, ↓sA_usd, ↓sA_ust]
  have hbig : r.d.cl.length ≤ 8000000000000 ∧ r.d.df.length ≤ 8000000000000 := by omega
  clear nuE fr
  have sp0 : Sep [[(n0, rC r)], A] := Sep.fresh (l := [A]) (show Vm.look (cat [A]) n0 = none from f0) _ (Sep.one A)
  refine MeantA.tree [] (.one 0 0 (.one 1 0 (.one 2 0 (.one 3 0 (.one 4 0 (.one 5 0 (.one 6 0 (.one 7 0 (.one 8 0 (.one 9 0 (.one 10 0 (.one 11 0 (.one 12 0 (.one 13 0 (.one 14 0 (.one 15 0 (.one 16 0 (.one 17 0 (.one 18 0 (.one 19 0 (.one 20 0 (.one 22 0 (.one 23 0 (.one 21 0 (.one 24 0 (.one 25 0 (.one 26 0 (.one 27 0 (.one 28 1 (.one 29 0 (.one 30 0 .nil))))))))))))))))))))))))))))))) [(n0, rC r)] (SubA.left [_] _) (by kernel_rfl) (by kernel_rfl) (by kernel_rfl) (by kernel_rfl) (by kernel_rfl) ?_
  intro ν fr; have nuE := And.intro (fr.mem (b := n0) (by simp)) (fr.nu)
  simp (maxDischargeDepth := 16) only [argE_nil, argE_cons, ↓vmD, vmV, vmStd, Nat.reduceMul, ↓reduceIte, Nat.reduceAdd, Nat.reduceSub, Nat.reduceEqDiff, Nat.reduceLT, Nat.reduceLeDiff, reduceCtorEq, Int.reduceToNat, Int.reduceLT, Int.reduceLE, Int.reduceEq, Int.reduceNeg, Int.reduceBEq, Int.reduceBNe, String.reduceEq, forall_const, ↓vmDA, vmVA, ↓vmQA, vmR, vmRA, ↓vmSA, vmSV, tyS, nuE, SubA.skip, SubA.refl, fr.2, vbLsm, ↓sA_usd, ↓sA_ust, tA_nil, tA_one, tA_two, rC, rsC]
  clear nuE fr
  refine CallA.newX (needs_h A r st hin hbig) (Sep.subs sp0 [1] rfl) ?_
  intro v1 B1 ho1 hd1
  obtain ⟨q1, k1, rfl, hq1⟩ := own_tx ho1
  have sp1 : Sep [B1, [(n0, rC r)], A] := Sep.cons hd1 sp0
  refine ⟨cat [[(n0, rC r)], B1, A], Sep.subs sp1 [1, 0, 2] rfl, ?_⟩
  have sp2 : Sep [[(n0, rC r)], B1, A] := Sep.pick sp1 [1, 0, 2] rfl rfl
  simp only [cat, List.cons_append, List.nil_append, rC, rsC]
  intro ν fr; have nuE := And.intro (fr.mem (b := n0) (by simp)) (fr.nu)
  simp (maxDischargeDepth := 16) only [argE_nil, argE_cons, ↓vmD, vmV, vmStd, Nat.reduceMul, ↓reduceIte, Nat.reduceAdd, Nat.reduceSub, Nat.reduceEqDiff, Nat.reduceLT, Nat.reduceLeDiff, reduceCtorEq, Int.reduceToNat, Int.reduceLT, Int.reduceLE, Int.reduceEq, Int.reduceNeg, Int.reduceBEq, Int.reduceBNe, String.reduceEq, forall_const, ↓vmDA, vmVA, ↓vmQA, vmR, vmRA, ↓vmSA, vmSV, tyS, nuE, SubA.skip, SubA.refl, fr.2, vbLsm, ↓sA_usd, ↓sA_ust, tA_nil, tA_one, tA_two, rC, rsC]
  clear nuE fr
  refine CallA.newX (rneeds_h A r st hin hbig) (Sep.subs sp2 [2] rfl) ?_
  intro v2 B2 ho2 hd2
  obtain ⟨q2, k2, rfl, hq2⟩ := own_tx ho2
  have sp3 : Sep [B2, [(n0, rC r)], B1, A] := Sep.cons hd2 sp2
  refine ⟨cat [[(n0, rC r)], B2, B1, A], Sep.subs sp3 [1, 0, 2, 3] rfl, ?_⟩
  have sp4 : Sep [[(n0, rC r)], B2, B1, A] := Sep.pick sp3 [1, 0, 2, 3] rfl rfl
  have te := eqT13_h (cat [[(n0, rC r)], B2, B1, A]) (needsF r.d st) q1 k1 q2 k2 (hq1.mono (Sep.subs sp4 [2] rfl)) (hq2.mono (Sep.subs sp4 [1] rfl))
  simp only [cat, List.cons_append, List.nil_append, rC, rsC]
  intro ν fr; have nuE := And.intro (fr.mem (b := n0) (by simp)) (fr.nu)
  simp (maxDischargeDepth := 16) only [argE_nil, argE_cons, ↓vmD, vmV, vmStd, Nat.reduceMul, ↓reduceIte, Nat.reduceAdd, Nat.reduceSub, Nat.reduceEqDiff, Nat.reduceLT, Nat.reduceLeDiff, reduceCtorEq, Int.reduceToNat, Int.reduceLT, Int.reduceLE, Int.reduceEq, Int.reduceNeg, Int.reduceBEq, Int.reduceBNe, String.reduceEq, forall_const, ↓vmDA, vmVA, ↓vmQA, vmR, vmRA, ↓vmSA, vmSV, tyS, nuE, SubA.skip, SubA.refl, fr.2, vbLsm, ↓sA_usd, ↓sA_ust, tA_nil, tA_one, tA_two, rC, rsC]
  clear nuE fr
  refine CallA.newX (pure_n te) (SubA.refl _) ?_
  rintro v3 B3 rfl hd3
  refine ⟨cat [[(n0, rC r)], B2, B1, A], hd3.right, ?_⟩
  clear te hd3
  simp only [cat, List.cons_append, List.nil_append, rC, rsC]
  intro ν fr; have nuE := And.intro (fr.mem (b := n0) (by simp)) (fr.nu)
  simp (maxDischargeDepth := 16) only [argE_nil, argE_cons, ↓vmD, vmV, vmStd, Nat.reduceMul, ↓reduceIte, Nat.reduceAdd, Nat.reduceSub, Nat.reduceEqDiff, Nat.reduceLT, Nat.reduceLeDiff, reduceCtorEq, Int.reduceToNat, Int.reduceLT, Int.reduceLE, Int.reduceEq, Int.reduceNeg, Int.reduceBEq, Int.reduceBNe, String.reduceEq, forall_const, ↓vmDA, vmVA, ↓vmQA, vmR, vmRA, ↓vmSA, vmSV, tyS, nuE, SubA.skip, SubA.refl, fr.2, vbLsm, ↓sA_usd, ↓sA_ust, tA_nil, tA_one, tA_two, rC, rsC]
  refine CallA.newX (awk_n A hT) (Sep.subs sp4 [3] rfl) ?_
  rintro v B rfl hd
  refine ⟨(n0, rC r) :: A, SubA.trans (Sep.subs sp4 [0, 3] rfl) hd.right, ?_⟩
  clear nuE fr
  simp only [rC, rsC]
  intro ν fr; have nuE := And.intro (fr.mem (b := n0) (by simp)) (fr.nu)
  simp (maxDischargeDepth := 16) only [argE_nil, argE_cons, ↓vmD, vmV, vmStd, Nat.reduceMul, ↓reduceIte, Nat.reduceAdd, Nat.reduceSub, Nat.reduceEqDiff, Nat.reduceLT, Nat.reduceLeDiff, reduceCtorEq, Int.reduceToNat, Int.reduceLT, Int.reduceLE, Int.reduceEq, Int.reduceNeg, Int.reduceBEq, Int.reduceBNe, String.reduceEq, forall_const, ↓vmDA, vmVA, ↓vmQA, vmR, vmRA, ↓vmSA, vmSV, tyS, nuE, SubA.skip, SubA.refl, fr.2, vbLsm, ↓sA_usd, ↓sA_ust, tA_nil, tA_one, tA_two, rC, rsC]
  all_goals first | exact SubA.fresh f0 (SubA.refl _) | skip
theorem daysLaw_w (A : AH) (hT : TabA A) (r : Rs) (st dt : Int) (hin : InR A r) (B_ : AH) (hB_ : SubA A B_) : valA Tryd.prog 4 #[.agg #[.string (bs r.d.code), .int .i64 r.d.d1, .int .i64 r.d.d2, .int .i64 r.d.d3, .int .i64 r.d.d4, .slice r.p1 r.d.cl.length r.c1, .slice r.p2 r.d.df.length r.c2], .int .i64 st, .int .i64 dt] B_ = some (.bool true) := valA_eq (pureA_at (by kernel_rfl) (daysLaw_h A hT r st dt hin) hB_)
theorem daysLaw_v (A : AH) (hT : TabA A) (r : Rs) (st dt : Int) (hin : InR A r) : valA Tryd.prog 4 #[.agg #[.string (bs r.d.code), .int .i64 r.d.d1, .int .i64 r.d.d2, .int .i64 r.d.d3, .int .i64 r.d.d4, .slice r.p1 r.d.cl.length r.c1, .slice r.p2 r.d.df.length r.c2], .int .i64 st, .int .i64 dt] A = some (.bool true) := valA_eq (pureA_at (by kernel_rfl) (daysLaw_h A hT r st dt hin) (SubA.refl _))
end Go.Proofs.YtamiclgnehfhpaaDoor
