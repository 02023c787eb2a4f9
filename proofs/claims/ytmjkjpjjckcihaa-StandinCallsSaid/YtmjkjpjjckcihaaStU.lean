/-
Stand-in: the walk of the law StandinCalls.
Conditions: none.
-/
import Derived.Test.YtmjkjpjjckcihaaStQ
import Derived.Test.YtmjkjpjjckcihaaStH
namespace Go.Proofs.Ytmjkjpjjckcihaa
open Go.Vm
set_option linter.unusedSimpArgs false
set_option linter.unusedVariables false
set_option maxHeartbeats 8000000
set_option maxRecDepth 20000
theorem StW.use {E X A1 : AH} {P : Program} {g : FuncId} {args : Array Value} {K : Value → AH → Prop} {u0 : Value} {rb : Nat} {lm : List Lim} {L' : List Dec}
    (hc : CallA P g args E fun u D => u = u0 ∧ ∃ E', StV E' rb lm L' ∧ SubA E' D ∧ ∀ x, Vm.look E x ≠ none → Vm.look D x ≠ none) (hs : SubA E A1) (hX : SubA X A1) (hd : Dis E X)
    (hk : ∀ E', StV E' rb lm L' → Dis E' X → K u0 (E' ++ X)) : CallA P g args A1 K :=
  CallA.use hc hs (fun v D h b hb => h.2.choose_spec.2.2 b hb) X hX hd (by
    rintro v D ⟨rfl, E', h1, h3, h4⟩ dD
    exact ⟨E', h3, hk E' h1 (dD.subl h3)⟩)
theorem getX_pair (k : List UInt8) (L : List Dec) : ∃ a b, getX k L = .tuple #[.bool a, .bool b] := by
  unfold getX
  split
  · split <;> exact ⟨_, _, rfl⟩
  · exact ⟨_, _, rfl⟩
theorem callsLaw_h (A : AH) (M : List Lim) (L : List OpT) (p1 p2 : Option Addr) (c1 c2 : Nat) (h1 : StR limC 4 A p1 M) (h2 : StR opC 6 A p2 L) (l1 : M.length ≤ 9223372036854775807) (l2 : L.length ≤ 9223372036854775807) : CallA Try.prog 3 #[.slice p1 M.length c1, .slice p2 L.length c2] A (fun u_ A_ => u_ = .bool true ∧ SubA A A_) := by
  refine callA_of_denA ⟨Try.prog, 3, Try.f3, 189, [0, 1, 4, 5, 6, 7, 8, 9, 10, 11, 12, 13, 14, 15, 16, 17, 18, 19, 20, 21, 22, 63], [9, 10, 11, 12, 13, 14, 15, 16, 17, 23, 24], [], _⟩ (args := [_, _]) Try.func3 rfl (by kernel_rfl) Try.ntmps3 (by simp) (by kernel_rfl) ?_
  intro ν fr; have nuE := fr.nu
  have sv := small_v A M L p1 p2 c1 c2 h1 h2 l1 l2
  cases hsm : smallB M L with
  | false =>
    rw [hsm] at sv
    simp (maxDischargeDepth := 16) only [argE_nil, argE_cons, ↓vmD, vmV, vmStd, Nat.reduceMul, ↓reduceIte, Nat.reduceAdd, Nat.reduceSub, Nat.reduceEqDiff, Nat.reduceLT, Nat.reduceLeDiff, reduceCtorEq, Int.reduceToNat, Int.reduceLT, Int.reduceLE, Int.reduceEq, Int.reduceNeg, Int.reduceBEq, Int.reduceBNe, String.reduceEq, forall_const, ↓vmDA, vmVA, ↓vmQA, vmR, vmRA, ↓vmSA, vmSV, tyS, nuE, SubA.skip, SubA.refl, fr.2, areDigits_v, panSum_v, rdigits_v, rsum_v, panLuhn_v, rLuhn_v, panCheck_v, rCheck_v, calIsDate_v, calDay_v, stLim_v, slIndexByte_v, indexByte_v, indexRune_v, containsRune_v, classOf_v, isWordByte_v, letter_v, digit_v, wordAt_v, rword_v, isName_v, risName_v, rIsDate_v, rDay_v, rAmount_v, awk_v, sv]
  | true =>
  rw [hsm] at sv
  obtain ⟨m30, n60, hmi, hop⟩ : M.length ≤ 30 ∧ L.length ≤ 60 ∧ (∀ l ∈ M, l.iss.length ≤ 100) ∧ ∀ x ∈ L, opB x = true := by
    unfold smallB at hsm
    simp only [Bool.and_eq_true, decide_eq_true_eq, List.all_eq_true] at hsm
    exact ⟨hsm.1, hsm.2.1, hsm.2.2.1, hsm.2.2.2⟩
  have hz : ∀ l ∈ M, l.iss.length ≤ 100000 := fun l hl => by have := hmi l hl; omega
  simp (maxDischargeDepth := 16) only [argE_nil, argE_cons, ↓vmD, vmV, vmStd, Nat.reduceMul, ↓reduceIte, Nat.reduceAdd, Nat.reduceSub, Nat.reduceEqDiff, Nat.reduceLT, Nat.reduceLeDiff, reduceCtorEq, Int.reduceToNat, Int.reduceLT, Int.reduceLE, Int.reduceEq, Int.reduceNeg, Int.reduceBEq, Int.reduceBNe, String.reduceEq, forall_const, ↓vmDA, vmVA, ↓vmQA, vmR, vmRA, ↓vmSA, vmSV, tyS, nuE, SubA.skip, SubA.refl, fr.2, areDigits_v, panSum_v, rdigits_v, rsum_v, panLuhn_v, rLuhn_v, panCheck_v, rCheck_v, calIsDate_v, calDay_v, stLim_v, slIndexByte_v, indexByte_v, indexRune_v, containsRune_v, classOf_v, isWordByte_v, letter_v, digit_v, wordAt_v, rword_v, isName_v, risName_v, rIsDate_v, rDay_v, rAmount_v, awk_v, sv]
  by_cases hne : newE [] M = 0
  rotate_left
  · refine CallA.keep0 (newS_h A M p1 c1 h1 hz (by omega)) (SubA.refl _) (fun v D h => ?_) (fun v D h => ?_)
    · rcases h with ⟨_, _, h⟩ | ⟨h, _⟩
      · exact sub_dom h
      · exact absurd h hne
    rcases h with ⟨_, rfl, hD⟩ | ⟨h, _⟩
    rotate_left
    · exact absurd h hne
    intro ν1 fr1
    have fr := fr1
    have nuE := fr.nu
    simp (maxDischargeDepth := 16) only [argE_nil, argE_cons, ↓vmD, vmV, vmStd, Nat.reduceMul, ↓reduceIte, Nat.reduceAdd, Nat.reduceSub, Nat.reduceEqDiff, Nat.reduceLT, Nat.reduceLeDiff, reduceCtorEq, Int.reduceToNat, Int.reduceLT, Int.reduceLE, Int.reduceEq, Int.reduceNeg, Int.reduceBEq, Int.reduceBNe, String.reduceEq, forall_const, ↓vmDA, vmVA, ↓vmQA, vmR, vmRA, ↓vmSA, vmSV, tyS, nuE, SubA.skip, SubA.refl, fr.2, areDigits_v, panSum_v, rdigits_v, rsum_v, panLuhn_v, rLuhn_v, panCheck_v, rCheck_v, calIsDate_v, calDay_v, stLim_v, slIndexByte_v, indexByte_v, indexRune_v, containsRune_v, classOf_v, isWordByte_v, letter_v, digit_v, wordAt_v, rword_v, isName_v, risName_v, rIsDate_v, rDay_v, rAmount_v, awk_v]
    refine CallA.keep0 (limits_h D M p1 c1 (h1.mono hD) (by omega)) (SubA.refl _) (fun v D2 h => sub_dom (SubA.trans h.choose_spec.choose_spec.2.2.1.right h.choose_spec.choose_spec.2.2.2)) (fun v D2 h => ?_)
    obtain ⟨v, B, rfl, ho, dB, hs⟩ := h
    obtain ⟨q, cap, rfl, _, st⟩ := ho.read limC_len
    intro ν2 fr2
    have fr := fr2
    have nuE := fr.nu
    simp (maxDischargeDepth := 16) only [argE_nil, argE_cons, ↓vmD, vmV, vmStd, Nat.reduceMul, ↓reduceIte, Nat.reduceAdd, Nat.reduceSub, Nat.reduceEqDiff, Nat.reduceLT, Nat.reduceLeDiff, reduceCtorEq, Int.reduceToNat, Int.reduceLT, Int.reduceLE, Int.reduceEq, Int.reduceNeg, Int.reduceBEq, Int.reduceBNe, String.reduceEq, forall_const, ↓vmDA, vmVA, ↓vmQA, vmR, vmRA, ↓vmSA, vmSV, tyS, nuE, SubA.skip, SubA.refl, fr.2, areDigits_v, panSum_v, rdigits_v, rsum_v, panLuhn_v, rLuhn_v, panCheck_v, rCheck_v, calIsDate_v, calDay_v, stLim_v, slIndexByte_v, indexByte_v, indexRune_v, containsRune_v, classOf_v, isWordByte_v, letter_v, digit_v, wordAt_v, rword_v, isName_v, risName_v, rIsDate_v, rDay_v, rAmount_v, awk_v]
    refine CallA.keep0 (rNewS_h D2 M q cap (st.mono (SubA.trans (SubA.left B D) hs)) hz (by omega)) (SubA.refl _) (fun v D h => ?_) (fun v D3 h => ?_)
    · rcases h with ⟨_, _, h⟩ | ⟨h, _⟩
      · exact sub_dom h
      · exact absurd h hne
    rcases h with ⟨_, rfl, hD3⟩ | ⟨h, _⟩
    rotate_left
    · exact absurd h hne
    have sA : SubA A D3 := SubA.trans hD (SubA.trans dB.right (SubA.trans hs hD3))
    intro ν3 fr3
    have fr := fr3
    have nuE := fr.nu
    have e1 : (newE [] M != newE [] M) = false := bne_self_eq_false _
    have e2 : (newE [] M == 0) = false := by simpa using hne
    simp (maxDischargeDepth := 16) only [argE_nil, argE_cons, ↓vmD, vmV, vmStd, Nat.reduceMul, ↓reduceIte, Nat.reduceAdd, Nat.reduceSub, Nat.reduceEqDiff, Nat.reduceLT, Nat.reduceLeDiff, reduceCtorEq, Int.reduceToNat, Int.reduceLT, Int.reduceLE, Int.reduceEq, Int.reduceNeg, Int.reduceBEq, Int.reduceBNe, String.reduceEq, forall_const, ↓vmDA, vmVA, ↓vmQA, vmR, vmRA, ↓vmSA, vmSV, tyS, nuE, SubA.skip, SubA.refl, fr.2, areDigits_v, panSum_v, rdigits_v, rsum_v, panLuhn_v, rLuhn_v, panCheck_v, rCheck_v, calIsDate_v, calDay_v, stLim_v, slIndexByte_v, indexByte_v, indexRune_v, containsRune_v, classOf_v, isWordByte_v, letter_v, digit_v, wordAt_v, rword_v, isName_v, risName_v, rIsDate_v, rDay_v, rAmount_v, awk_v, e1, e2, hne]
    exact sA
  · refine NewS.use hne (newS_h A M p1 c1 h1 hz (by omega)) (SubA.refl _) ?_
    intro sb E0 hE0 d0
    intro ν1 fr1
    have fr := fr1
    have nuE := fr.nu
    simp (maxDischargeDepth := 16) only [argE_nil, argE_cons, ↓vmD, vmV, vmStd, Nat.reduceMul, ↓reduceIte, Nat.reduceAdd, Nat.reduceSub, Nat.reduceEqDiff, Nat.reduceLT, Nat.reduceLeDiff, reduceCtorEq, Int.reduceToNat, Int.reduceLT, Int.reduceLE, Int.reduceEq, Int.reduceNeg, Int.reduceBEq, Int.reduceBNe, String.reduceEq, forall_const, ↓vmDA, vmVA, ↓vmQA, vmR, vmRA, ↓vmSA, vmSV, tyS, nuE, SubA.skip, SubA.refl, fr.2, areDigits_v, panSum_v, rdigits_v, rsum_v, panLuhn_v, rLuhn_v, panCheck_v, rCheck_v, calIsDate_v, calDay_v, stLim_v, slIndexByte_v, indexByte_v, indexRune_v, containsRune_v, classOf_v, isWordByte_v, letter_v, digit_v, wordAt_v, rword_v, isName_v, risName_v, rIsDate_v, rDay_v, rAmount_v, awk_v]
    refine CallA.keep0 (limits_h (E0 ++ A) M p1 c1 (h1.mono d0.right) (by omega)) (SubA.refl _) (fun v D2 h => sub_dom (SubA.trans h.choose_spec.choose_spec.2.2.1.right h.choose_spec.choose_spec.2.2.2)) (fun v D2 h => ?_)
    obtain ⟨v, B, rfl, ho, dB, hs⟩ := h
    obtain ⟨q, cap, rfl, _, st⟩ := ho.read limC_len
    have s2 : SubA (E0 ++ A) D2 := SubA.trans dB.right hs
    intro ν2 fr2
    have fr := fr2
    have nuE := fr.nu
    simp (maxDischargeDepth := 16) only [argE_nil, argE_cons, ↓vmD, vmV, vmStd, Nat.reduceMul, ↓reduceIte, Nat.reduceAdd, Nat.reduceSub, Nat.reduceEqDiff, Nat.reduceLT, Nat.reduceLeDiff, reduceCtorEq, Int.reduceToNat, Int.reduceLT, Int.reduceLE, Int.reduceEq, Int.reduceNeg, Int.reduceBEq, Int.reduceBNe, String.reduceEq, forall_const, ↓vmDA, vmVA, ↓vmQA, vmR, vmRA, ↓vmSA, vmSV, tyS, nuE, SubA.skip, SubA.refl, fr.2, areDigits_v, panSum_v, rdigits_v, rsum_v, panLuhn_v, rLuhn_v, panCheck_v, rCheck_v, calIsDate_v, calDay_v, stLim_v, slIndexByte_v, indexByte_v, indexRune_v, containsRune_v, classOf_v, isWordByte_v, letter_v, digit_v, wordAt_v, rword_v, isName_v, risName_v, rIsDate_v, rDay_v, rAmount_v, awk_v]
    refine CallA.keep0 (rNewS_h D2 M q cap (st.mono (SubA.trans (SubA.left B _) hs)) hz (by omega)) (SubA.refl _) (fun v D h => ?_) (fun v D3 h => ?_)
    · rcases h with ⟨h, _⟩ | ⟨_, _, E, _, _, d, h⟩
      · exact absurd hne h
      · exact sub_dom (SubA.trans d.right h)
    rcases h with ⟨h, _⟩ | ⟨_, rb, R0, rfl, hR0, dR, hD3⟩
    · exact absurd hne h
    have s3 : SubA D2 D3 := SubA.trans dR.right hD3
    have sEA : SubA (E0 ++ A) D3 := SubA.trans s2 s3
    have spI : Sep [E0, R0, A] := (Sep.cons (x := R0) (l := [E0, A]) (show Dis R0 (E0 ++ A) from (dR.symm.subl s2).symm) (Sep.cons d0 (Sep.one A))).pick [1, 0, 2] rfl rfl
    have sI : SubA (cat [E0, R0, A]) D3 := SubA.both (SubA.trans (SubA.left E0 A) sEA) (SubA.both (SubA.trans (SubA.left R0 D2) hD3) (SubA.trans d0.right sEA))
    intro ν3 fr3
    have fr := fr3
    have nuE := fr.nu
    simp (maxDischargeDepth := 16) only [argE_nil, argE_cons, ↓vmD, vmV, vmStd, Nat.reduceMul, ↓reduceIte, Nat.reduceAdd, Nat.reduceSub, Nat.reduceEqDiff, Nat.reduceLT, Nat.reduceLeDiff, reduceCtorEq, Int.reduceToNat, Int.reduceLT, Int.reduceLE, Int.reduceEq, Int.reduceNeg, Int.reduceBEq, Int.reduceBNe, String.reduceEq, forall_const, ↓vmDA, vmVA, ↓vmQA, vmR, vmRA, ↓vmSA, vmSV, tyS, nuE, SubA.skip, SubA.refl, fr.2, areDigits_v, panSum_v, rdigits_v, rsum_v, panLuhn_v, rLuhn_v, panCheck_v, rCheck_v, calIsDate_v, calDay_v, stLim_v, slIndexByte_v, indexByte_v, indexRune_v, containsRune_v, classOf_v, isWordByte_v, letter_v, digit_v, wordAt_v, rword_v, isName_v, risName_v, rIsDate_v, rDay_v, rAmount_v, awk_v]
    obtain ⟨e, l, D, E, R, he, hEE, hRR, hd, hle, hE, hR, sp⟩ : ∃ (e : Nat) (l : List OpT) (D : List (Nat × Dec)) (E R : AH), e = 0 ∧ E = E0 ∧ R = R0 ∧ l = L.drop e ∧ e ≤ L.length ∧ StP E sb M D ∧ StV R rb M (D.map Prod.snd) ∧ Sep [E, R, A] :=
      ⟨0, L, [], E0, R0, rfl, rfl, rfl, rfl, by simp, hE0, hR0, spI⟩
    rw [show (9, some (Value.int .i64 0)) = (9, some (Value.int .i64 (e : Int))) by rw [he]; rfl]
    refine LoopA.at (A := cat [E, R, A]) (by rw [hEE, hRR]; exact sI) ?_
    clear he hEE hRR nuE fr fr1 fr2 fr3 hE0 hR0 spI sI sEA s3 s2 d0 dR
    simp only [cat]
    induction l generalizing e D E R with
    | nil =>
      obtain ⟨hn1, hn2⟩ := drop_nil hd hle
      have lt : ((e : Int) < (L.length : Int)) = False := eq_false (by omega)
      have sA : SubA A (E ++ (R ++ A)) := sp.subs [2] rfl
      refine LoopA.intro (by kernel_rfl) ?_
      intro ν fr; have nuE := fr.nu
      simp (maxDischargeDepth := 16) only [argE_nil, argE_cons, ↓vmD, vmV, vmStd, Nat.reduceMul, ↓reduceIte, Nat.reduceAdd, Nat.reduceSub, Nat.reduceEqDiff, Nat.reduceLT, Nat.reduceLeDiff, reduceCtorEq, Int.reduceToNat, Int.reduceLT, Int.reduceLE, Int.reduceEq, Int.reduceNeg, Int.reduceBEq, Int.reduceBNe, String.reduceEq, forall_const, ↓vmDA, vmVA, ↓vmQA, vmR, vmRA, ↓vmSA, vmSV, tyS, nuE, SubA.skip, SubA.refl, fr.2, areDigits_v, panSum_v, rdigits_v, rsum_v, panLuhn_v, rLuhn_v, panCheck_v, rCheck_v, calIsDate_v, calDay_v, stLim_v, slIndexByte_v, indexByte_v, indexRune_v, containsRune_v, classOf_v, isWordByte_v, letter_v, digit_v, wordAt_v, rword_v, isName_v, risName_v, rIsDate_v, rDay_v, rAmount_v, awk_v, lt]
      exact sA
    | cons x l ih =>
      obtain ⟨ha, hlt, hd', htk⟩ := drop_some hd
      have lt : ((e : Int) < (L.length : Int)) = True := eq_true (by omega)
      have we : IntKind.i64.wrap ((e : Int) + 1) = ((e + 1 : Nat) : Int) := by rw [w_i64 (by omega) (by omega)]; omega
      obtain ⟨bk, off, cs, ty, fr0, hp0, hbk, hcr, hcc⟩ := h2.at ha
      subst hp0
      have sA : SubA A (E ++ (R ++ A)) := sp.subs [2] rfl
      have lbk := sA _ _ hbk
      have hxo := hop x (List.mem_of_getElem? ha)
      have hcl : x.card.length ≤ 100000 := by unfold opB at hxo; simp at hxo; omega
      refine LoopA.intro (by kernel_rfl) ?_
      intro ν fr; have nuE := fr.nu
      have f0 := fr.2 0
      have sp0 : Sep [[(ν 0, (Obj.cells #[.int .i64 x.kind, .int .i64 x.at_, .string (bs x.key), .string (bs x.iss), .string (bs x.card), .int .i64 x.amt] 36))], E, R, A] := Sep.fresh (by simpa [cat] using f0) _ sp
      by_cases hk0 : x.kind = 0
      · have hk0t := eq_true hk0
        simp (maxDischargeDepth := 16) only [argE_nil, argE_cons, ↓vmD, vmV, vmStd, Nat.reduceMul, ↓reduceIte, Nat.reduceAdd, Nat.reduceSub, Nat.reduceEqDiff, Nat.reduceLT, Nat.reduceLeDiff, reduceCtorEq, Int.reduceToNat, Int.reduceLT, Int.reduceLE, Int.reduceEq, Int.reduceNeg, Int.reduceBEq, Int.reduceBNe, String.reduceEq, forall_const, ↓vmDA, vmVA, ↓vmQA, vmR, vmRA, ↓vmSA, vmSV, tyS, nuE, SubA.skip, SubA.refl, fr.2, areDigits_v, panSum_v, rdigits_v, rsum_v, panLuhn_v, rLuhn_v, panCheck_v, rCheck_v, calIsDate_v, calDay_v, stLim_v, slIndexByte_v, indexByte_v, indexRune_v, containsRune_v, classOf_v, isWordByte_v, letter_v, digit_v, wordAt_v, rword_v, isName_v, risName_v, rIsDate_v, rDay_v, rAmount_v, awk_v, lt, lbk, hcr, opC, hk0t]
        generalize ν 0 = n at *
        refine StS.use (X := cat [[(n, (Obj.cells #[.int .i64 x.kind, .int .i64 x.at_, .string (bs x.key), .string (bs x.iss), .string (bs x.card), .int .i64 x.amt] 36))], R, A]) (decide_h E sb M D hE x.at_ x.key x.iss x.card x.amt hcl) (sp0.subs [1] rfl) (sp0.subs [0, 2, 3] rfl) (sp0.pick [1, 0, 2, 3] rfl rfl).dis ?_
        intro E1 D1 hE1 hD1 d1
        have sp1 : Sep [E1, [(n, (Obj.cells #[.int .i64 x.kind, .int .i64 x.at_, .string (bs x.key), .string (bs x.iss), .string (bs x.card), .int .i64 x.amt] 36))], R, A] := Sep.cons d1 (sp0.pick [0, 2, 3] rfl rfl)
        have lk1 : Vm.look (E1 ++ cat [[(n, (Obj.cells #[.int .i64 x.kind, .int .i64 x.at_, .string (bs x.key), .string (bs x.iss), .string (bs x.card), .int .i64 x.amt] 36))], R, A]) n = some (Obj.cells #[.int .i64 x.kind, .int .i64 x.at_, .string (bs x.key), .string (bs x.iss), .string (bs x.card), .int .i64 x.amt] 36) := sp1.sub [(n, (Obj.cells #[.int .i64 x.kind, .int .i64 x.at_, .string (bs x.key), .string (bs x.iss), .string (bs x.card), .int .i64 x.amt] 36))] (by simp) _ _ (by simp [Vm.look])
        intro ν1 fr1
        have fr := fr1
        have nuE := fr.nu
        simp (maxDischargeDepth := 16) only [argE_nil, argE_cons, ↓vmD, vmV, vmStd, Nat.reduceMul, ↓reduceIte, Nat.reduceAdd, Nat.reduceSub, Nat.reduceEqDiff, Nat.reduceLT, Nat.reduceLeDiff, reduceCtorEq, Int.reduceToNat, Int.reduceLT, Int.reduceLE, Int.reduceEq, Int.reduceNeg, Int.reduceBEq, Int.reduceBNe, String.reduceEq, forall_const, ↓vmDA, vmVA, ↓vmQA, vmR, vmRA, ↓vmSA, vmSV, tyS, nuE, SubA.skip, SubA.refl, fr.2, areDigits_v, panSum_v, rdigits_v, rsum_v, panLuhn_v, rLuhn_v, panCheck_v, rCheck_v, calIsDate_v, calDay_v, stLim_v, slIndexByte_v, indexByte_v, indexRune_v, containsRune_v, classOf_v, isWordByte_v, letter_v, digit_v, wordAt_v, rword_v, isName_v, risName_v, rIsDate_v, rDay_v, rAmount_v, awk_v, lk1]
        refine StW.use (X := cat [E1, [(n, (Obj.cells #[.int .i64 x.kind, .int .i64 x.at_, .string (bs x.key), .string (bs x.iss), .string (bs x.card), .int .i64 x.amt] 36))], A]) (rDecide_h R rb M (D.map Prod.snd) hR x.at_ x.key x.iss x.card x.amt hcl) (sp1.subs [2] rfl) (sp1.subs [0, 1, 3] rfl) (sp1.pick [2, 0, 1, 3] rfl rfl).dis ?_
        intro R1 hR1 d2
        rw [← hD1] at hR1
        have sp2 : Sep [R1, E1, [(n, (Obj.cells #[.int .i64 x.kind, .int .i64 x.at_, .string (bs x.key), .string (bs x.iss), .string (bs x.card), .int .i64 x.amt] 36))], A] := Sep.cons d2 (sp1.pick [0, 1, 3] rfl rfl)
        have lk2 : Vm.look (R1 ++ cat [E1, [(n, (Obj.cells #[.int .i64 x.kind, .int .i64 x.at_, .string (bs x.key), .string (bs x.iss), .string (bs x.card), .int .i64 x.amt] 36))], A]) n = some (Obj.cells #[.int .i64 x.kind, .int .i64 x.at_, .string (bs x.key), .string (bs x.iss), .string (bs x.card), .int .i64 x.amt] 36) := sp2.sub [(n, (Obj.cells #[.int .i64 x.kind, .int .i64 x.at_, .string (bs x.key), .string (bs x.iss), .string (bs x.card), .int .i64 x.amt] 36))] (by simp) _ _ (by simp [Vm.look])
        have sE : SubA E1 (R1 ++ cat [E1, [(n, (Obj.cells #[.int .i64 x.kind, .int .i64 x.at_, .string (bs x.key), .string (bs x.iss), .string (bs x.card), .int .i64 x.amt] 36))], A]) := sp2.subs [1] rfl
        have sR : SubA R1 (R1 ++ cat [E1, [(n, (Obj.cells #[.int .i64 x.kind, .int .i64 x.at_, .string (bs x.key), .string (bs x.iss), .string (bs x.card), .int .i64 x.amt] 36))], A]) := sp2.subs [0] rfl
        have spT : Sep [E1, R1, A] := sp2.pick [1, 0, 3] rfl rfl
        have sT : SubA (cat [E1, R1, A]) (R1 ++ cat [E1, [(n, (Obj.cells #[.int .i64 x.kind, .int .i64 x.at_, .string (bs x.key), .string (bs x.iss), .string (bs x.card), .int .i64 x.amt] 36))], A]) := sp2.subs [1, 0, 3] rfl
        have g1 := decision_w E1 sb M D1 hE1 x.key _ sE
        have g2 := rDecision_w R1 rb M (D1.map Prod.snd) hR1 x.key _ sR
        have g3 := used_w E1 sb M D1 hE1 x.card (IntKind.i64.wrap (x.at_.tdiv 86400)) _ sE
        have g4 := rUsed_w R1 rb M (D1.map Prod.snd) hR1 x.card (IntKind.i64.wrap (x.at_.tdiv 86400)) _ sR
        obtain ⟨ga, gb, hg⟩ := getX_pair x.key (D1.map Prod.snd)
        rw [hg] at g1 g2
        generalize R1 ++ cat [E1, [(n, (Obj.cells #[.int .i64 x.kind, .int .i64 x.at_, .string (bs x.key), .string (bs x.iss), .string (bs x.card), .int .i64 x.amt] 36))], A] = Q at *
        intro ν2 fr2
        have fr := fr2
        have nuE := fr.nu
        simp (maxDischargeDepth := 16) only [argE_nil, argE_cons, ↓vmD, vmV, vmStd, Nat.reduceMul, ↓reduceIte, Nat.reduceAdd, Nat.reduceSub, Nat.reduceEqDiff, Nat.reduceLT, Nat.reduceLeDiff, reduceCtorEq, Int.reduceToNat, Int.reduceLT, Int.reduceLE, Int.reduceEq, Int.reduceNeg, Int.reduceBEq, Int.reduceBNe, String.reduceEq, forall_const, ↓vmDA, vmVA, ↓vmQA, vmR, vmRA, ↓vmSA, vmSV, tyS, nuE, SubA.skip, SubA.refl, fr.2, areDigits_v, panSum_v, rdigits_v, rsum_v, panLuhn_v, rLuhn_v, panCheck_v, rCheck_v, calIsDate_v, calDay_v, stLim_v, slIndexByte_v, indexByte_v, indexRune_v, containsRune_v, classOf_v, isWordByte_v, letter_v, digit_v, wordAt_v, rword_v, isName_v, risName_v, rIsDate_v, rDay_v, rAmount_v, awk_v, bne_self_eq_false, lk2, g1, g2, g3, g4]
        refine MeantA.plan [(0, 0), (1, 0), (2, 0), (3, 0), (4, 0), (5, 0), (6, 0), (7, 0), (8, 0), (9, 0), (10, 0), (11, 0), (12, 0), (13, 0), (14, 0), (15, 0), (16, 0), (17, 0), (18, 0), (19, 0), (20, 0), (21, 0), (23, 0), (24, 0), (25, 0), (22, 0), (26, 1), (27, 0), (28, 0), (29, 0)] Q (SubA.refl _) (by kernel_rfl) (by kernel_rfl) (by kernel_rfl) (by kernel_rfl) (by kernel_rfl) (by kernel_rfl) ?_
        intro ν3 fr3
        have fr := fr3
        have nuE := fr.nu
        simp (maxDischargeDepth := 16) only [argE_nil, argE_cons, ↓vmD, vmV, vmStd, Nat.reduceMul, ↓reduceIte, Nat.reduceAdd, Nat.reduceSub, Nat.reduceEqDiff, Nat.reduceLT, Nat.reduceLeDiff, reduceCtorEq, Int.reduceToNat, Int.reduceLT, Int.reduceLE, Int.reduceEq, Int.reduceNeg, Int.reduceBEq, Int.reduceBNe, String.reduceEq, forall_const, ↓vmDA, vmVA, ↓vmQA, vmR, vmRA, ↓vmSA, vmSV, tyS, nuE, SubA.skip, SubA.refl, fr.2, areDigits_v, panSum_v, rdigits_v, rsum_v, panLuhn_v, rLuhn_v, panCheck_v, rCheck_v, calIsDate_v, calDay_v, stLim_v, slIndexByte_v, indexByte_v, indexRune_v, containsRune_v, classOf_v, isWordByte_v, letter_v, digit_v, wordAt_v, rword_v, isName_v, risName_v, rIsDate_v, rDay_v, rAmount_v, awk_v, lk2, bne_self_eq_false]
        refine CallA.go (waiting_h E1 sb M D1 hE1 x.iss) sE (fun v D h => SubA.trans h.choose_spec.choose_spec.2.2.1.right h.choose_spec.choose_spec.2.2.2) ?_
        rintro v1 A0 Q1 ⟨v1', B1, rfl, ho1, dB1, hs1⟩ hA1 hQ1 _
        obtain ⟨q1, k1, rfl, _, st1⟩ := ho1.read advC_len
        have st1' := st1.mono (SubA.trans (SubA.left B1 E1) (SubA.trans hs1 hA1))
        intro ν4 fr4
        have fr := fr4
        have nuE := fr.nu
        simp (maxDischargeDepth := 16) only [argE_nil, argE_cons, ↓vmD, vmV, vmStd, Nat.reduceMul, ↓reduceIte, Nat.reduceAdd, Nat.reduceSub, Nat.reduceEqDiff, Nat.reduceLT, Nat.reduceLeDiff, reduceCtorEq, Int.reduceToNat, Int.reduceLT, Int.reduceLE, Int.reduceEq, Int.reduceNeg, Int.reduceBEq, Int.reduceBNe, String.reduceEq, forall_const, ↓vmDA, vmVA, ↓vmQA, vmR, vmRA, ↓vmSA, vmSV, tyS, nuE, SubA.skip, SubA.refl, fr.2, areDigits_v, panSum_v, rdigits_v, rsum_v, panLuhn_v, rLuhn_v, panCheck_v, rCheck_v, calIsDate_v, calDay_v, stLim_v, slIndexByte_v, indexByte_v, indexRune_v, containsRune_v, classOf_v, isWordByte_v, letter_v, digit_v, wordAt_v, rword_v, isName_v, risName_v, rIsDate_v, rDay_v, rAmount_v, awk_v, hQ1]
        refine CallA.go (rWaiting_h R1 rb M (D1.map Prod.snd) hR1 x.iss) (SubA.trans sR hQ1) (fun v D h => SubA.trans h.choose_spec.choose_spec.2.2.1.right h.choose_spec.choose_spec.2.2.2) ?_
        rintro v2 A3 Q2 ⟨v2', B2, rfl, ho2, dB2, hs2⟩ hA3 hQ2 _
        obtain ⟨q2, k2, rfl, _, st2⟩ := ho2.read advC_len
        have st2' := st2.mono (SubA.trans (SubA.left B2 R1) (SubA.trans hs2 hA3))
        obtain ⟨_, _, _, _, _, _, _, _, _, _, _, _, _, _, _, _, _, _, _, _, _, hlen1, _⟩ := hE1.out
        have hMl := waitL_len (D1.map Prod.snd) x.iss
        have sm := same_v Q2 (waitL x.iss (D1.map Prod.snd)) q1 q2 k1 k2 (st1'.mono hQ2) st2' (by omega)
        have hQ := SubA.trans hQ1 hQ2
        intro ν5 fr5
        have fr := fr5
        have nuE := fr.nu
        simp (maxDischargeDepth := 16) only [argE_nil, argE_cons, ↓vmD, vmV, vmStd, Nat.reduceMul, ↓reduceIte, Nat.reduceAdd, Nat.reduceSub, Nat.reduceEqDiff, Nat.reduceLT, Nat.reduceLeDiff, reduceCtorEq, Int.reduceToNat, Int.reduceLT, Int.reduceLE, Int.reduceEq, Int.reduceNeg, Int.reduceBEq, Int.reduceBNe, String.reduceEq, forall_const, ↓vmDA, vmVA, ↓vmQA, vmR, vmRA, ↓vmSA, vmSV, tyS, nuE, SubA.skip, SubA.refl, fr.2, areDigits_v, panSum_v, rdigits_v, rsum_v, panLuhn_v, rLuhn_v, panCheck_v, rCheck_v, calIsDate_v, calDay_v, stLim_v, slIndexByte_v, indexByte_v, indexRune_v, containsRune_v, classOf_v, isWordByte_v, letter_v, digit_v, wordAt_v, rword_v, isName_v, risName_v, rIsDate_v, rDay_v, rAmount_v, awk_v, hQ, sm, we]
        exact LoopA.weak (ih (e := e + 1) (D := D1) (E := E1) (R := R1) (hd := hd') (hle := by omega) (hE := hE1) (hR := hR1) (sp := spT)) (by simp only [subE, get_cons, Nat.reduceEqDiff, ↓reduceIte, reduceCtorEq, Nat.reduceAdd, and_self, and_true]) (SubA.trans sT hQ)
      · have hk0f := eq_false hk0
        by_cases hk1 : x.kind = 1
        · have hk1t := eq_true hk1
          have hz0 : ((1 : Int) = 0) = False := eq_false (by decide)
          simp (maxDischargeDepth := 16) only [argE_nil, argE_cons, ↓vmD, vmV, vmStd, Nat.reduceMul, ↓reduceIte, Nat.reduceAdd, Nat.reduceSub, Nat.reduceEqDiff, Nat.reduceLT, Nat.reduceLeDiff, reduceCtorEq, Int.reduceToNat, Int.reduceLT, Int.reduceLE, Int.reduceEq, Int.reduceNeg, Int.reduceBEq, Int.reduceBNe, String.reduceEq, forall_const, ↓vmDA, vmVA, ↓vmQA, vmR, vmRA, ↓vmSA, vmSV, tyS, nuE, SubA.skip, SubA.refl, fr.2, areDigits_v, panSum_v, rdigits_v, rsum_v, panLuhn_v, rLuhn_v, panCheck_v, rCheck_v, calIsDate_v, calDay_v, stLim_v, slIndexByte_v, indexByte_v, indexRune_v, containsRune_v, classOf_v, isWordByte_v, letter_v, digit_v, wordAt_v, rword_v, isName_v, risName_v, rIsDate_v, rDay_v, rAmount_v, awk_v, lt, lbk, hcr, opC, hk0f, hk1t]
          generalize ν 0 = n at *
          refine MeantA.plan [(0, 0), (1, 0), (2, 0), (4, 0), (5, 0), (6, 0), (3, 0), (7, 1), (8, 0)] [(n, (Obj.cells #[.int .i64 x.kind, .int .i64 x.at_, .string (bs x.key), .string (bs x.iss), .string (bs x.card), .int .i64 x.amt] 36))] (SubA.left [_] _) (by kernel_rfl) (by kernel_rfl) (by kernel_rfl) (by kernel_rfl) (by kernel_rfl) (by kernel_rfl) ?_
          intro ν0 fr0'
          have fr := fr0'
          have nuE := fr.nu
          simp (maxDischargeDepth := 16) only [argE_nil, argE_cons, ↓vmD, vmV, vmStd, Nat.reduceMul, ↓reduceIte, Nat.reduceAdd, Nat.reduceSub, Nat.reduceEqDiff, Nat.reduceLT, Nat.reduceLeDiff, reduceCtorEq, Int.reduceToNat, Int.reduceLT, Int.reduceLE, Int.reduceEq, Int.reduceNeg, Int.reduceBEq, Int.reduceBNe, String.reduceEq, forall_const, ↓vmDA, vmVA, ↓vmQA, vmR, vmRA, ↓vmSA, vmSV, tyS, nuE, SubA.skip, SubA.refl, fr.2, areDigits_v, panSum_v, rdigits_v, rsum_v, panLuhn_v, rLuhn_v, panCheck_v, rCheck_v, calIsDate_v, calDay_v, stLim_v, slIndexByte_v, indexByte_v, indexRune_v, containsRune_v, classOf_v, isWordByte_v, letter_v, digit_v, wordAt_v, rword_v, isName_v, risName_v, rIsDate_v, rDay_v, rAmount_v, awk_v]
          refine StS.use (X := cat [[(n, (Obj.cells #[.int .i64 x.kind, .int .i64 x.at_, .string (bs x.key), .string (bs x.iss), .string (bs x.card), .int .i64 x.amt] 36))], R, A]) (reverse_h E sb M D hE x.key) (sp0.subs [1] rfl) (sp0.subs [0, 2, 3] rfl) (sp0.pick [1, 0, 2, 3] rfl rfl).dis ?_
          intro E1 D1 hE1 hD1 d1
          have sp1 : Sep [E1, [(n, (Obj.cells #[.int .i64 x.kind, .int .i64 x.at_, .string (bs x.key), .string (bs x.iss), .string (bs x.card), .int .i64 x.amt] 36))], R, A] := Sep.cons d1 (sp0.pick [0, 2, 3] rfl rfl)
          have sAs : SubA [(n, (Obj.cells #[.int .i64 x.kind, .int .i64 x.at_, .string (bs x.key), .string (bs x.iss), .string (bs x.card), .int .i64 x.amt] 36))] (E1 ++ cat [[(n, (Obj.cells #[.int .i64 x.kind, .int .i64 x.at_, .string (bs x.key), .string (bs x.iss), .string (bs x.card), .int .i64 x.amt] 36))], R, A]) := sp1.subs [1] rfl
          intro ν1 fr1
          have fr := fr1
          have nuE := fr.nu
          simp (maxDischargeDepth := 16) only [argE_nil, argE_cons, ↓vmD, vmV, vmStd, Nat.reduceMul, ↓reduceIte, Nat.reduceAdd, Nat.reduceSub, Nat.reduceEqDiff, Nat.reduceLT, Nat.reduceLeDiff, reduceCtorEq, Int.reduceToNat, Int.reduceLT, Int.reduceLE, Int.reduceEq, Int.reduceNeg, Int.reduceBEq, Int.reduceBNe, String.reduceEq, forall_const, ↓vmDA, vmVA, ↓vmQA, vmR, vmRA, ↓vmSA, vmSV, tyS, nuE, SubA.skip, SubA.refl, fr.2, areDigits_v, panSum_v, rdigits_v, rsum_v, panLuhn_v, rLuhn_v, panCheck_v, rCheck_v, calIsDate_v, calDay_v, stLim_v, slIndexByte_v, indexByte_v, indexRune_v, containsRune_v, classOf_v, isWordByte_v, letter_v, digit_v, wordAt_v, rword_v, isName_v, risName_v, rIsDate_v, rDay_v, rAmount_v, awk_v, sAs]
          refine StW.use (X := cat [E1, [(n, (Obj.cells #[.int .i64 x.kind, .int .i64 x.at_, .string (bs x.key), .string (bs x.iss), .string (bs x.card), .int .i64 x.amt] 36))], A]) (rReverse_h R rb M (D.map Prod.snd) hR x.key) (sp1.subs [2] rfl) (sp1.subs [0, 1, 3] rfl) (sp1.pick [2, 0, 1, 3] rfl rfl).dis ?_
          intro R1 hR1 d2
          rw [← hD1] at hR1
          have sp2 : Sep [R1, E1, [(n, (Obj.cells #[.int .i64 x.kind, .int .i64 x.at_, .string (bs x.key), .string (bs x.iss), .string (bs x.card), .int .i64 x.amt] 36))], A] := Sep.cons d2 (sp1.pick [0, 1, 3] rfl rfl)
          have lk2 : Vm.look (R1 ++ cat [E1, [(n, (Obj.cells #[.int .i64 x.kind, .int .i64 x.at_, .string (bs x.key), .string (bs x.iss), .string (bs x.card), .int .i64 x.amt] 36))], A]) n = some (Obj.cells #[.int .i64 x.kind, .int .i64 x.at_, .string (bs x.key), .string (bs x.iss), .string (bs x.card), .int .i64 x.amt] 36) := sp2.sub [(n, (Obj.cells #[.int .i64 x.kind, .int .i64 x.at_, .string (bs x.key), .string (bs x.iss), .string (bs x.card), .int .i64 x.amt] 36))] (by simp) _ _ (by simp [Vm.look])
          have sE : SubA E1 (R1 ++ cat [E1, [(n, (Obj.cells #[.int .i64 x.kind, .int .i64 x.at_, .string (bs x.key), .string (bs x.iss), .string (bs x.card), .int .i64 x.amt] 36))], A]) := sp2.subs [1] rfl
          have sR : SubA R1 (R1 ++ cat [E1, [(n, (Obj.cells #[.int .i64 x.kind, .int .i64 x.at_, .string (bs x.key), .string (bs x.iss), .string (bs x.card), .int .i64 x.amt] 36))], A]) := sp2.subs [0] rfl
          have spT : Sep [E1, R1, A] := sp2.pick [1, 0, 3] rfl rfl
          have sT : SubA (cat [E1, R1, A]) (R1 ++ cat [E1, [(n, (Obj.cells #[.int .i64 x.kind, .int .i64 x.at_, .string (bs x.key), .string (bs x.iss), .string (bs x.card), .int .i64 x.amt] 36))], A]) := sp2.subs [1, 0, 3] rfl
          have g1 := decision_w E1 sb M D1 hE1 x.key _ sE
          have g2 := rDecision_w R1 rb M (D1.map Prod.snd) hR1 x.key _ sR
          have g3 := used_w E1 sb M D1 hE1 x.card (IntKind.i64.wrap (x.at_.tdiv 86400)) _ sE
          have g4 := rUsed_w R1 rb M (D1.map Prod.snd) hR1 x.card (IntKind.i64.wrap (x.at_.tdiv 86400)) _ sR
          obtain ⟨ga, gb, hg⟩ := getX_pair x.key (D1.map Prod.snd)
          rw [hg] at g1 g2
          generalize R1 ++ cat [E1, [(n, (Obj.cells #[.int .i64 x.kind, .int .i64 x.at_, .string (bs x.key), .string (bs x.iss), .string (bs x.card), .int .i64 x.amt] 36))], A] = Q at *
          intro ν2 fr2
          have fr := fr2
          have nuE := fr.nu
          simp (maxDischargeDepth := 16) only [argE_nil, argE_cons, ↓vmD, vmV, vmStd, Nat.reduceMul, ↓reduceIte, Nat.reduceAdd, Nat.reduceSub, Nat.reduceEqDiff, Nat.reduceLT, Nat.reduceLeDiff, reduceCtorEq, Int.reduceToNat, Int.reduceLT, Int.reduceLE, Int.reduceEq, Int.reduceNeg, Int.reduceBEq, Int.reduceBNe, String.reduceEq, forall_const, ↓vmDA, vmVA, ↓vmQA, vmR, vmRA, ↓vmSA, vmSV, tyS, nuE, SubA.skip, SubA.refl, fr.2, areDigits_v, panSum_v, rdigits_v, rsum_v, panLuhn_v, rLuhn_v, panCheck_v, rCheck_v, calIsDate_v, calDay_v, stLim_v, slIndexByte_v, indexByte_v, indexRune_v, containsRune_v, classOf_v, isWordByte_v, letter_v, digit_v, wordAt_v, rword_v, isName_v, risName_v, rIsDate_v, rDay_v, rAmount_v, awk_v, bne_self_eq_false, lk2, g1, g2, g3, g4]
          refine MeantA.plan [(0, 0), (1, 0), (2, 0), (3, 0), (4, 0), (5, 0), (6, 0), (7, 0), (8, 0), (9, 0), (10, 0), (11, 0), (12, 0), (13, 0), (14, 0), (15, 0), (16, 0), (17, 0), (18, 0), (19, 0), (20, 0), (21, 0), (23, 0), (24, 0), (25, 0), (22, 0), (26, 1), (27, 0), (28, 0), (29, 0)] Q (SubA.refl _) (by kernel_rfl) (by kernel_rfl) (by kernel_rfl) (by kernel_rfl) (by kernel_rfl) (by kernel_rfl) ?_
          intro ν3 fr3
          have fr := fr3
          have nuE := fr.nu
          simp (maxDischargeDepth := 16) only [argE_nil, argE_cons, ↓vmD, vmV, vmStd, Nat.reduceMul, ↓reduceIte, Nat.reduceAdd, Nat.reduceSub, Nat.reduceEqDiff, Nat.reduceLT, Nat.reduceLeDiff, reduceCtorEq, Int.reduceToNat, Int.reduceLT, Int.reduceLE, Int.reduceEq, Int.reduceNeg, Int.reduceBEq, Int.reduceBNe, String.reduceEq, forall_const, ↓vmDA, vmVA, ↓vmQA, vmR, vmRA, ↓vmSA, vmSV, tyS, nuE, SubA.skip, SubA.refl, fr.2, areDigits_v, panSum_v, rdigits_v, rsum_v, panLuhn_v, rLuhn_v, panCheck_v, rCheck_v, calIsDate_v, calDay_v, stLim_v, slIndexByte_v, indexByte_v, indexRune_v, containsRune_v, classOf_v, isWordByte_v, letter_v, digit_v, wordAt_v, rword_v, isName_v, risName_v, rIsDate_v, rDay_v, rAmount_v, awk_v, lk2, bne_self_eq_false]
          refine CallA.go (waiting_h E1 sb M D1 hE1 x.iss) sE (fun v D h => SubA.trans h.choose_spec.choose_spec.2.2.1.right h.choose_spec.choose_spec.2.2.2) ?_
          rintro v1 A0 Q1 ⟨v1', B1, rfl, ho1, dB1, hs1⟩ hA1 hQ1 _
          obtain ⟨q1, k1, rfl, _, st1⟩ := ho1.read advC_len
          have st1' := st1.mono (SubA.trans (SubA.left B1 E1) (SubA.trans hs1 hA1))
          intro ν4 fr4
          have fr := fr4
          have nuE := fr.nu
          simp (maxDischargeDepth := 16) only [argE_nil, argE_cons, ↓vmD, vmV, vmStd, Nat.reduceMul, ↓reduceIte, Nat.reduceAdd, Nat.reduceSub, Nat.reduceEqDiff, Nat.reduceLT, Nat.reduceLeDiff, reduceCtorEq, Int.reduceToNat, Int.reduceLT, Int.reduceLE, Int.reduceEq, Int.reduceNeg, Int.reduceBEq, Int.reduceBNe, String.reduceEq, forall_const, ↓vmDA, vmVA, ↓vmQA, vmR, vmRA, ↓vmSA, vmSV, tyS, nuE, SubA.skip, SubA.refl, fr.2, areDigits_v, panSum_v, rdigits_v, rsum_v, panLuhn_v, rLuhn_v, panCheck_v, rCheck_v, calIsDate_v, calDay_v, stLim_v, slIndexByte_v, indexByte_v, indexRune_v, containsRune_v, classOf_v, isWordByte_v, letter_v, digit_v, wordAt_v, rword_v, isName_v, risName_v, rIsDate_v, rDay_v, rAmount_v, awk_v, hQ1]
          refine CallA.go (rWaiting_h R1 rb M (D1.map Prod.snd) hR1 x.iss) (SubA.trans sR hQ1) (fun v D h => SubA.trans h.choose_spec.choose_spec.2.2.1.right h.choose_spec.choose_spec.2.2.2) ?_
          rintro v2 A3 Q2 ⟨v2', B2, rfl, ho2, dB2, hs2⟩ hA3 hQ2 _
          obtain ⟨q2, k2, rfl, _, st2⟩ := ho2.read advC_len
          have st2' := st2.mono (SubA.trans (SubA.left B2 R1) (SubA.trans hs2 hA3))
          obtain ⟨_, _, _, _, _, _, _, _, _, _, _, _, _, _, _, _, _, _, _, _, _, hlen1, _⟩ := hE1.out
          have hMl := waitL_len (D1.map Prod.snd) x.iss
          have sm := same_v Q2 (waitL x.iss (D1.map Prod.snd)) q1 q2 k1 k2 (st1'.mono hQ2) st2' (by omega)
          have hQ := SubA.trans hQ1 hQ2
          intro ν5 fr5
          have fr := fr5
          have nuE := fr.nu
          simp (maxDischargeDepth := 16) only [argE_nil, argE_cons, ↓vmD, vmV, vmStd, Nat.reduceMul, ↓reduceIte, Nat.reduceAdd, Nat.reduceSub, Nat.reduceEqDiff, Nat.reduceLT, Nat.reduceLeDiff, reduceCtorEq, Int.reduceToNat, Int.reduceLT, Int.reduceLE, Int.reduceEq, Int.reduceNeg, Int.reduceBEq, Int.reduceBNe, String.reduceEq, forall_const, ↓vmDA, vmVA, ↓vmQA, vmR, vmRA, ↓vmSA, vmSV, tyS, nuE, SubA.skip, SubA.refl, fr.2, areDigits_v, panSum_v, rdigits_v, rsum_v, panLuhn_v, rLuhn_v, panCheck_v, rCheck_v, calIsDate_v, calDay_v, stLim_v, slIndexByte_v, indexByte_v, indexRune_v, containsRune_v, classOf_v, isWordByte_v, letter_v, digit_v, wordAt_v, rword_v, isName_v, risName_v, rIsDate_v, rDay_v, rAmount_v, awk_v, hQ, sm, we]
          exact LoopA.weak (ih (e := e + 1) (D := D1) (E := E1) (R := R1) (hd := hd') (hle := by omega) (hE := hE1) (hR := hR1) (sp := spT)) (by simp only [subE, get_cons, Nat.reduceEqDiff, ↓reduceIte, reduceCtorEq, Nat.reduceAdd, and_self, and_true]) (SubA.trans sT hQ)
        · have hk1f := eq_false hk1
          simp (maxDischargeDepth := 16) only [argE_nil, argE_cons, ↓vmD, vmV, vmStd, Nat.reduceMul, ↓reduceIte, Nat.reduceAdd, Nat.reduceSub, Nat.reduceEqDiff, Nat.reduceLT, Nat.reduceLeDiff, reduceCtorEq, Int.reduceToNat, Int.reduceLT, Int.reduceLE, Int.reduceEq, Int.reduceNeg, Int.reduceBEq, Int.reduceBNe, String.reduceEq, forall_const, ↓vmDA, vmVA, ↓vmQA, vmR, vmRA, ↓vmSA, vmSV, tyS, nuE, SubA.skip, SubA.refl, fr.2, areDigits_v, panSum_v, rdigits_v, rsum_v, panLuhn_v, rLuhn_v, panCheck_v, rCheck_v, calIsDate_v, calDay_v, stLim_v, slIndexByte_v, indexByte_v, indexRune_v, containsRune_v, classOf_v, isWordByte_v, letter_v, digit_v, wordAt_v, rword_v, isName_v, risName_v, rIsDate_v, rDay_v, rAmount_v, awk_v, lt, lbk, hcr, opC, hk0f, hk1f]
          generalize ν 0 = n at *
          refine MeantA.plan [(0, 0), (1, 0), (2, 0), (4, 0), (5, 0), (6, 0), (3, 0), (7, 1), (8, 0)] [(n, (Obj.cells #[.int .i64 x.kind, .int .i64 x.at_, .string (bs x.key), .string (bs x.iss), .string (bs x.card), .int .i64 x.amt] 36))] (SubA.left [_] _) (by kernel_rfl) (by kernel_rfl) (by kernel_rfl) (by kernel_rfl) (by kernel_rfl) (by kernel_rfl) ?_
          intro ν0 fr0'
          have fr := fr0'
          have nuE := fr.nu
          simp (maxDischargeDepth := 16) only [argE_nil, argE_cons, ↓vmD, vmV, vmStd, Nat.reduceMul, ↓reduceIte, Nat.reduceAdd, Nat.reduceSub, Nat.reduceEqDiff, Nat.reduceLT, Nat.reduceLeDiff, reduceCtorEq, Int.reduceToNat, Int.reduceLT, Int.reduceLE, Int.reduceEq, Int.reduceNeg, Int.reduceBEq, Int.reduceBNe, String.reduceEq, forall_const, ↓vmDA, vmVA, ↓vmQA, vmR, vmRA, ↓vmSA, vmSV, tyS, nuE, SubA.skip, SubA.refl, fr.2, areDigits_v, panSum_v, rdigits_v, rsum_v, panLuhn_v, rLuhn_v, panCheck_v, rCheck_v, calIsDate_v, calDay_v, stLim_v, slIndexByte_v, indexByte_v, indexRune_v, containsRune_v, classOf_v, isWordByte_v, letter_v, digit_v, wordAt_v, rword_v, isName_v, risName_v, rIsDate_v, rDay_v, rAmount_v, awk_v]
          refine StS.use (X := cat [[(n, (Obj.cells #[.int .i64 x.kind, .int .i64 x.at_, .string (bs x.key), .string (bs x.iss), .string (bs x.card), .int .i64 x.amt] 36))], R, A]) (ack_h E sb M D hE x.key) (sp0.subs [1] rfl) (sp0.subs [0, 2, 3] rfl) (sp0.pick [1, 0, 2, 3] rfl rfl).dis ?_
          intro E1 D1 hE1 hD1 d1
          have sp1 : Sep [E1, [(n, (Obj.cells #[.int .i64 x.kind, .int .i64 x.at_, .string (bs x.key), .string (bs x.iss), .string (bs x.card), .int .i64 x.amt] 36))], R, A] := Sep.cons d1 (sp0.pick [0, 2, 3] rfl rfl)
          have sAs : SubA [(n, (Obj.cells #[.int .i64 x.kind, .int .i64 x.at_, .string (bs x.key), .string (bs x.iss), .string (bs x.card), .int .i64 x.amt] 36))] (E1 ++ cat [[(n, (Obj.cells #[.int .i64 x.kind, .int .i64 x.at_, .string (bs x.key), .string (bs x.iss), .string (bs x.card), .int .i64 x.amt] 36))], R, A]) := sp1.subs [1] rfl
          intro ν1 fr1
          have fr := fr1
          have nuE := fr.nu
          simp (maxDischargeDepth := 16) only [argE_nil, argE_cons, ↓vmD, vmV, vmStd, Nat.reduceMul, ↓reduceIte, Nat.reduceAdd, Nat.reduceSub, Nat.reduceEqDiff, Nat.reduceLT, Nat.reduceLeDiff, reduceCtorEq, Int.reduceToNat, Int.reduceLT, Int.reduceLE, Int.reduceEq, Int.reduceNeg, Int.reduceBEq, Int.reduceBNe, String.reduceEq, forall_const, ↓vmDA, vmVA, ↓vmQA, vmR, vmRA, ↓vmSA, vmSV, tyS, nuE, SubA.skip, SubA.refl, fr.2, areDigits_v, panSum_v, rdigits_v, rsum_v, panLuhn_v, rLuhn_v, panCheck_v, rCheck_v, calIsDate_v, calDay_v, stLim_v, slIndexByte_v, indexByte_v, indexRune_v, containsRune_v, classOf_v, isWordByte_v, letter_v, digit_v, wordAt_v, rword_v, isName_v, risName_v, rIsDate_v, rDay_v, rAmount_v, awk_v, sAs]
          refine StW.use (X := cat [E1, [(n, (Obj.cells #[.int .i64 x.kind, .int .i64 x.at_, .string (bs x.key), .string (bs x.iss), .string (bs x.card), .int .i64 x.amt] 36))], A]) (rAck_h R rb M (D.map Prod.snd) hR x.key) (sp1.subs [2] rfl) (sp1.subs [0, 1, 3] rfl) (sp1.pick [2, 0, 1, 3] rfl rfl).dis ?_
          intro R1 hR1 d2
          rw [← hD1] at hR1
          have sp2 : Sep [R1, E1, [(n, (Obj.cells #[.int .i64 x.kind, .int .i64 x.at_, .string (bs x.key), .string (bs x.iss), .string (bs x.card), .int .i64 x.amt] 36))], A] := Sep.cons d2 (sp1.pick [0, 1, 3] rfl rfl)
          have lk2 : Vm.look (R1 ++ cat [E1, [(n, (Obj.cells #[.int .i64 x.kind, .int .i64 x.at_, .string (bs x.key), .string (bs x.iss), .string (bs x.card), .int .i64 x.amt] 36))], A]) n = some (Obj.cells #[.int .i64 x.kind, .int .i64 x.at_, .string (bs x.key), .string (bs x.iss), .string (bs x.card), .int .i64 x.amt] 36) := sp2.sub [(n, (Obj.cells #[.int .i64 x.kind, .int .i64 x.at_, .string (bs x.key), .string (bs x.iss), .string (bs x.card), .int .i64 x.amt] 36))] (by simp) _ _ (by simp [Vm.look])
          have sE : SubA E1 (R1 ++ cat [E1, [(n, (Obj.cells #[.int .i64 x.kind, .int .i64 x.at_, .string (bs x.key), .string (bs x.iss), .string (bs x.card), .int .i64 x.amt] 36))], A]) := sp2.subs [1] rfl
          have sR : SubA R1 (R1 ++ cat [E1, [(n, (Obj.cells #[.int .i64 x.kind, .int .i64 x.at_, .string (bs x.key), .string (bs x.iss), .string (bs x.card), .int .i64 x.amt] 36))], A]) := sp2.subs [0] rfl
          have spT : Sep [E1, R1, A] := sp2.pick [1, 0, 3] rfl rfl
          have sT : SubA (cat [E1, R1, A]) (R1 ++ cat [E1, [(n, (Obj.cells #[.int .i64 x.kind, .int .i64 x.at_, .string (bs x.key), .string (bs x.iss), .string (bs x.card), .int .i64 x.amt] 36))], A]) := sp2.subs [1, 0, 3] rfl
          have g1 := decision_w E1 sb M D1 hE1 x.key _ sE
          have g2 := rDecision_w R1 rb M (D1.map Prod.snd) hR1 x.key _ sR
          have g3 := used_w E1 sb M D1 hE1 x.card (IntKind.i64.wrap (x.at_.tdiv 86400)) _ sE
          have g4 := rUsed_w R1 rb M (D1.map Prod.snd) hR1 x.card (IntKind.i64.wrap (x.at_.tdiv 86400)) _ sR
          obtain ⟨ga, gb, hg⟩ := getX_pair x.key (D1.map Prod.snd)
          rw [hg] at g1 g2
          generalize R1 ++ cat [E1, [(n, (Obj.cells #[.int .i64 x.kind, .int .i64 x.at_, .string (bs x.key), .string (bs x.iss), .string (bs x.card), .int .i64 x.amt] 36))], A] = Q at *
          intro ν2 fr2
          have fr := fr2
          have nuE := fr.nu
          simp (maxDischargeDepth := 16) only [argE_nil, argE_cons, ↓vmD, vmV, vmStd, Nat.reduceMul, ↓reduceIte, Nat.reduceAdd, Nat.reduceSub, Nat.reduceEqDiff, Nat.reduceLT, Nat.reduceLeDiff, reduceCtorEq, Int.reduceToNat, Int.reduceLT, Int.reduceLE, Int.reduceEq, Int.reduceNeg, Int.reduceBEq, Int.reduceBNe, String.reduceEq, forall_const, ↓vmDA, vmVA, ↓vmQA, vmR, vmRA, ↓vmSA, vmSV, tyS, nuE, SubA.skip, SubA.refl, fr.2, areDigits_v, panSum_v, rdigits_v, rsum_v, panLuhn_v, rLuhn_v, panCheck_v, rCheck_v, calIsDate_v, calDay_v, stLim_v, slIndexByte_v, indexByte_v, indexRune_v, containsRune_v, classOf_v, isWordByte_v, letter_v, digit_v, wordAt_v, rword_v, isName_v, risName_v, rIsDate_v, rDay_v, rAmount_v, awk_v, bne_self_eq_false, lk2, g1, g2, g3, g4]
          refine MeantA.plan [(0, 0), (1, 0), (2, 0), (3, 0), (4, 0), (5, 0), (6, 0), (7, 0), (8, 0), (9, 0), (10, 0), (11, 0), (12, 0), (13, 0), (14, 0), (15, 0), (16, 0), (17, 0), (18, 0), (19, 0), (20, 0), (21, 0), (23, 0), (24, 0), (25, 0), (22, 0), (26, 1), (27, 0), (28, 0), (29, 0)] Q (SubA.refl _) (by kernel_rfl) (by kernel_rfl) (by kernel_rfl) (by kernel_rfl) (by kernel_rfl) (by kernel_rfl) ?_
          intro ν3 fr3
          have fr := fr3
          have nuE := fr.nu
          simp (maxDischargeDepth := 16) only [argE_nil, argE_cons, ↓vmD, vmV, vmStd, Nat.reduceMul, ↓reduceIte, Nat.reduceAdd, Nat.reduceSub, Nat.reduceEqDiff, Nat.reduceLT, Nat.reduceLeDiff, reduceCtorEq, Int.reduceToNat, Int.reduceLT, Int.reduceLE, Int.reduceEq, Int.reduceNeg, Int.reduceBEq, Int.reduceBNe, String.reduceEq, forall_const, ↓vmDA, vmVA, ↓vmQA, vmR, vmRA, ↓vmSA, vmSV, tyS, nuE, SubA.skip, SubA.refl, fr.2, areDigits_v, panSum_v, rdigits_v, rsum_v, panLuhn_v, rLuhn_v, panCheck_v, rCheck_v, calIsDate_v, calDay_v, stLim_v, slIndexByte_v, indexByte_v, indexRune_v, containsRune_v, classOf_v, isWordByte_v, letter_v, digit_v, wordAt_v, rword_v, isName_v, risName_v, rIsDate_v, rDay_v, rAmount_v, awk_v, lk2, bne_self_eq_false]
          refine CallA.go (waiting_h E1 sb M D1 hE1 x.iss) sE (fun v D h => SubA.trans h.choose_spec.choose_spec.2.2.1.right h.choose_spec.choose_spec.2.2.2) ?_
          rintro v1 A0 Q1 ⟨v1', B1, rfl, ho1, dB1, hs1⟩ hA1 hQ1 _
          obtain ⟨q1, k1, rfl, _, st1⟩ := ho1.read advC_len
          have st1' := st1.mono (SubA.trans (SubA.left B1 E1) (SubA.trans hs1 hA1))
          intro ν4 fr4
          have fr := fr4
          have nuE := fr.nu
          simp (maxDischargeDepth := 16) only [argE_nil, argE_cons, ↓vmD, vmV, vmStd, Nat.reduceMul, ↓reduceIte, Nat.reduceAdd, Nat.reduceSub, Nat.reduceEqDiff, Nat.reduceLT, Nat.reduceLeDiff, reduceCtorEq, Int.reduceToNat, Int.reduceLT, Int.reduceLE, Int.reduceEq, Int.reduceNeg, Int.reduceBEq, Int.reduceBNe, String.reduceEq, forall_const, ↓vmDA, vmVA, ↓vmQA, vmR, vmRA, ↓vmSA, vmSV, tyS, nuE, SubA.skip, SubA.refl, fr.2, areDigits_v, panSum_v, rdigits_v, rsum_v, panLuhn_v, rLuhn_v, panCheck_v, rCheck_v, calIsDate_v, calDay_v, stLim_v, slIndexByte_v, indexByte_v, indexRune_v, containsRune_v, classOf_v, isWordByte_v, letter_v, digit_v, wordAt_v, rword_v, isName_v, risName_v, rIsDate_v, rDay_v, rAmount_v, awk_v, hQ1]
          refine CallA.go (rWaiting_h R1 rb M (D1.map Prod.snd) hR1 x.iss) (SubA.trans sR hQ1) (fun v D h => SubA.trans h.choose_spec.choose_spec.2.2.1.right h.choose_spec.choose_spec.2.2.2) ?_
          rintro v2 A3 Q2 ⟨v2', B2, rfl, ho2, dB2, hs2⟩ hA3 hQ2 _
          obtain ⟨q2, k2, rfl, _, st2⟩ := ho2.read advC_len
          have st2' := st2.mono (SubA.trans (SubA.left B2 R1) (SubA.trans hs2 hA3))
          obtain ⟨_, _, _, _, _, _, _, _, _, _, _, _, _, _, _, _, _, _, _, _, _, hlen1, _⟩ := hE1.out
          have hMl := waitL_len (D1.map Prod.snd) x.iss
          have sm := same_v Q2 (waitL x.iss (D1.map Prod.snd)) q1 q2 k1 k2 (st1'.mono hQ2) st2' (by omega)
          have hQ := SubA.trans hQ1 hQ2
          intro ν5 fr5
          have fr := fr5
          have nuE := fr.nu
          simp (maxDischargeDepth := 16) only [argE_nil, argE_cons, ↓vmD, vmV, vmStd, Nat.reduceMul, ↓reduceIte, Nat.reduceAdd, Nat.reduceSub, Nat.reduceEqDiff, Nat.reduceLT, Nat.reduceLeDiff, reduceCtorEq, Int.reduceToNat, Int.reduceLT, Int.reduceLE, Int.reduceEq, Int.reduceNeg, Int.reduceBEq, Int.reduceBNe, String.reduceEq, forall_const, ↓vmDA, vmVA, ↓vmQA, vmR, vmRA, ↓vmSA, vmSV, tyS, nuE, SubA.skip, SubA.refl, fr.2, areDigits_v, panSum_v, rdigits_v, rsum_v, panLuhn_v, rLuhn_v, panCheck_v, rCheck_v, calIsDate_v, calDay_v, stLim_v, slIndexByte_v, indexByte_v, indexRune_v, containsRune_v, classOf_v, isWordByte_v, letter_v, digit_v, wordAt_v, rword_v, isName_v, risName_v, rIsDate_v, rDay_v, rAmount_v, awk_v, hQ, sm, we]
          exact LoopA.weak (ih (e := e + 1) (D := D1) (E := E1) (R := R1) (hd := hd') (hle := by omega) (hE := hE1) (hR := hR1) (sp := spT)) (by simp only [subE, get_cons, Nat.reduceEqDiff, ↓reduceIte, reduceCtorEq, Nat.reduceAdd, and_self, and_true]) (SubA.trans sT hQ)
theorem callsLaw_w (A : AH) (M : List Lim) (L : List OpT) (p1 p2 : Option Addr) (c1 c2 : Nat) (h1 : StR limC 4 A p1 M) (h2 : StR opC 6 A p2 L) (l1 : M.length ≤ 9223372036854775807) (l2 : L.length ≤ 9223372036854775807) (B_ : AH) (hB_ : SubA A B_) : valA Try.prog 3 #[.slice p1 M.length c1, .slice p2 L.length c2] B_ = some (.bool true) := valA_eq (pureA_at (by kernel_rfl) (callsLaw_h A M L p1 p2 c1 c2 h1 h2 l1 l2) hB_)
theorem callsLaw_v (A : AH) (M : List Lim) (L : List OpT) (p1 p2 : Option Addr) (c1 c2 : Nat) (h1 : StR limC 4 A p1 M) (h2 : StR opC 6 A p2 L) (l1 : M.length ≤ 9223372036854775807) (l2 : L.length ≤ 9223372036854775807) : valA Try.prog 3 #[.slice p1 M.length c1, .slice p2 L.length c2] A = some (.bool true) := valA_eq (pureA_at (by kernel_rfl) (callsLaw_h A M L p1 p2 c1 c2 h1 h2 l1 l2) (SubA.refl _))
end Go.Proofs.Ytmjkjpjjckcihaa
