/-
Stand-in: the walk of the reference's New.
Conditions: none.
-/
import Derived.Test.YtmjkjpjjckcihaaStO
namespace Go.Proofs.Ytmjkjpjjckcihaa
open Go.Vm
set_option linter.unusedSimpArgs false
set_option linter.unusedVariables false
set_option maxHeartbeats 4000000
set_option maxRecDepth 20000
theorem rNewS_h (A : AH) (L : List Lim) (p : Option Addr) (pcap : Nat) (hL : StR limC 4 A p L) (hz : ∀ l ∈ L, l.iss.length ≤ 100000) (hl : L.length ≤ 1000) : CallA Try.prog 10 #[.slice p L.length pcap] A (fun u_ A_ => (newE [] L ≠ 0 ∧ u_ = .tuple #[.pointer none, .int .i64 (newE [] L)] ∧ SubA A A_) ∨ (newE [] L = 0 ∧ ∃ rb E, u_ = .tuple #[.pointer (some ⟨rb, 0, none⟩), .int .i64 0] ∧ StV E rb L [] ∧ Dis E A ∧ SubA (E ++ A) A_)) := by
  refine callA_of_denA ⟨Try.prog, 10, Try.f10, 72, [0, 2, 3, 4, 5], [], [(9, .q false)], _⟩ (args := [_]) Try.func10 rfl (by kernel_rfl) Try.ntmps10 (by simp) (by kernel_rfl) ?_
  intro ν fr; have nuE := fr.nu
  simp (maxDischargeDepth := 16) only [argE_nil, argE_cons, ↓vmD, vmV, vmStd, Nat.reduceMul, ↓reduceIte, Nat.reduceAdd, Nat.reduceSub, Nat.reduceEqDiff, Nat.reduceLT, Nat.reduceLeDiff, reduceCtorEq, Int.reduceToNat, Int.reduceLT, Int.reduceLE, Int.reduceEq, Int.reduceNeg, Int.reduceBEq, Int.reduceBNe, String.reduceEq, forall_const, ↓vmDA, vmVA, ↓vmQA, vmR, vmRA, ↓vmSA, vmSV, tyS, nuE, SubA.skip, SubA.refl, fr.2, areDigits_v, panSum_v, rdigits_v, rsum_v, panLuhn_v, rLuhn_v, panCheck_v, rCheck_v, calIsDate_v, calDay_v, stLim_v, slIndexByte_v, indexByte_v, indexRune_v, containsRune_v, classOf_v, isWordByte_v, letter_v, digit_v, wordAt_v, rword_v, isName_v, risName_v, rIsDate_v, rDay_v, rAmount_v, awk_v]
  obtain ⟨e, l, he, hd, hle, hne⟩ : ∃ (e : Nat) (l : List Lim), e = 0 ∧ l = L.drop e ∧ e ≤ L.length ∧ newE [] L = newE (L.take e) l := ⟨0, L, rfl, rfl, by simp, rfl⟩
  rw [show (4, some (Value.int .i64 0)) = (4, some (Value.int .i64 (e : Int))) by rw [he]; rfl]
  clear he nuE fr
  induction l generalizing e with
  | nil =>
    obtain ⟨hn1, hn2⟩ := drop_nil hd hle
    have lt : ((e : Int) < (L.length : Int)) = False := eq_false (by omega)
    refine LoopA.intro (by kernel_rfl) ?_
    intro ν fr; have nuE := fr.nu
    simp (maxDischargeDepth := 16) only [argE_nil, argE_cons, ↓vmD, vmV, vmStd, Nat.reduceMul, ↓reduceIte, Nat.reduceAdd, Nat.reduceSub, Nat.reduceEqDiff, Nat.reduceLT, Nat.reduceLeDiff, reduceCtorEq, Int.reduceToNat, Int.reduceLT, Int.reduceLE, Int.reduceEq, Int.reduceNeg, Int.reduceBEq, Int.reduceBNe, String.reduceEq, forall_const, ↓vmDA, vmVA, ↓vmQA, vmR, vmRA, ↓vmSA, vmSV, tyS, nuE, SubA.skip, SubA.refl, fr.2, areDigits_v, panSum_v, rdigits_v, rsum_v, panLuhn_v, rLuhn_v, panCheck_v, rCheck_v, calIsDate_v, calDay_v, stLim_v, slIndexByte_v, indexByte_v, indexRune_v, containsRune_v, classOf_v, isWordByte_v, letter_v, digit_v, wordAt_v, rword_v, isName_v, risName_v, rIsDate_v, rDay_v, rAmount_v, awk_v, lt, sc_rlim0]
    have f0 := fr.2 0
    have sA1 : SubA A ((ν 0, Obj.cells #[] 76) :: A) := SubA.fresh f0 (SubA.refl _)
    refine RunA.use ?_
    refine append_src (n := 0) (xs := []) (m := L.length) (news := L.flatMap limC) (B := [(ν 0, Obj.cells #[] 76)]) slc33 zro76 rfl (by decide) (OwnL.at0 limC 4 _ (ν 0)) (SubA.left [_] A) (hL.mono sA1).src (fun u hu => by
      obtain ⟨x, _, hx⟩ := List.mem_flatMap.1 hu
      simp only [limC, List.mem_cons, List.not_mem_nil, or_false] at hx
      rcases hx with h | h | h | h <;> rw [h] <;> rfl) (by simp only [maxLen]; omega) (by omega) ?_
    intro v' B' ho' hb'
    have dB' : Dis B' A := ap_dis hb' (Dis.one f0) sA1
    have ow' : OwnL limC 4 76 v' B' L := by
      unfold OwnL
      simpa using ho'
    obtain ⟨q2, cap2, rfl, _⟩ := ow'.slice
    refine ⟨B' ++ A, SubA.app sA1, ?_⟩
    intro ν1 fr1
    have fr := fr1
    have nuE := fr.nu
    have g0 := fr1.2 0
    have gB : Vm.look B' (ν1 0) = none := (SubA.left B' A).none g0
    have gA : Vm.look A (ν1 0) = none := dB'.right.none g0
    simp (maxDischargeDepth := 16) only [argE_nil, argE_cons, ↓vmD, vmV, vmStd, Nat.reduceMul, ↓reduceIte, Nat.reduceAdd, Nat.reduceSub, Nat.reduceEqDiff, Nat.reduceLT, Nat.reduceLeDiff, reduceCtorEq, Int.reduceToNat, Int.reduceLT, Int.reduceLE, Int.reduceEq, Int.reduceNeg, Int.reduceBEq, Int.reduceBNe, String.reduceEq, forall_const, ↓vmDA, vmVA, ↓vmQA, vmR, vmRA, ↓vmSA, vmSV, tyS, nuE, SubA.skip, SubA.refl, fr.2, areDigits_v, panSum_v, rdigits_v, rsum_v, panLuhn_v, rLuhn_v, panCheck_v, rCheck_v, calIsDate_v, calDay_v, stLim_v, slIndexByte_v, indexByte_v, indexRune_v, containsRune_v, classOf_v, isWordByte_v, letter_v, digit_v, wordAt_v, rword_v, isName_v, risName_v, rIsDate_v, rDay_v, rAmount_v, awk_v]
    refine .inr ⟨hne, ν1 0, cat [[(ν1 0, Obj.cells #[.slice q2 L.length cap2, .slice none 0 0] 79)], B', []], rfl, ⟨_, _, B', [], rfl, Sep.fresh (by simpa [cat] using gB) _ (Sep.cons (show Dis B' [] from fun x hx => absurd rfl hx) (Sep.one _)), ow', OwnL.nil _ _ _, ⟨List.nodup_nil, fun d hd => (by simp at hd), by simp, fun d hd => (by simp at hd)⟩, hl⟩, ?_, ?_⟩
    · exact (Dis.one gA).app (dB'.app (Dis.nil _))
    · simp only [cat, List.append_nil, List.cons_append, List.nil_append]
      exact SubA.refl _
  | cons x l ih =>
    obtain ⟨ha, hlt, hd', htk⟩ := drop_some hd
    have lt : ((e : Int) < (L.length : Int)) = True := eq_true (by omega)
    have we : IntKind.i64.wrap ((e : Int) + 1) = ((e + 1 : Nat) : Int) := by rw [w_i64 (by omega) (by omega)]; omega
    have hx := hL.at ha
    obtain ⟨bk, off, cs, ty, fr0, hp0, hbk, hcr, hcc⟩ := hx
    subst hp0
    have c0 : cs[off + e * 4]? = some (.string (bs x.iss)) := hcc 0 _ rfl
    have c1 := hcc 1 _ rfl
    have c2 := hcc 2 _ rfl
    have c3 := hcc 3 _ rfl
    have zz : (bs x.iss).size ≤ 100000 := by rw [bs_size]; exact hz x (List.mem_of_getElem? ha)
    refine LoopA.intro (by kernel_rfl) ?_
    intro ν fr; have nuE := fr.nu
    have fin : ∀ k : Int, k ≠ 0 → newE (L.take e) (x :: l) = k → (newE [] L ≠ 0 ∧ Value.tuple #[.pointer none, .int .i64 k] = .tuple #[.pointer none, .int .i64 (newE [] L)] ∧ SubA A A) ∨ (newE [] L = 0 ∧ ∃ rb E, Value.tuple #[.pointer none, .int .i64 k] = .tuple #[.pointer (some ⟨rb, 0, none⟩), .int .i64 0] ∧ StV E rb L [] ∧ Dis E A ∧ SubA (E ++ A) A) := fun k hk h => .inl ⟨by rw [hne, h]; exact hk, by rw [hne, h], SubA.refl _⟩
    cases hn : nameF (bs x.iss) with
    | false =>
      have hE : newE (L.take e) (x :: l) = 5 := by unfold newE; rw [if_pos hn]
      simp (maxDischargeDepth := 16) only [argE_nil, argE_cons, ↓vmD, vmV, vmStd, Nat.reduceMul, ↓reduceIte, Nat.reduceAdd, Nat.reduceSub, Nat.reduceEqDiff, Nat.reduceLT, Nat.reduceLeDiff, reduceCtorEq, Int.reduceToNat, Int.reduceLT, Int.reduceLE, Int.reduceEq, Int.reduceNeg, Int.reduceBEq, Int.reduceBNe, String.reduceEq, forall_const, ↓vmDA, vmVA, ↓vmQA, vmR, vmRA, ↓vmSA, vmSV, tyS, nuE, SubA.skip, SubA.refl, fr.2, areDigits_v, panSum_v, rdigits_v, rsum_v, panLuhn_v, rLuhn_v, panCheck_v, rCheck_v, calIsDate_v, calDay_v, stLim_v, slIndexByte_v, indexByte_v, indexRune_v, containsRune_v, classOf_v, isWordByte_v, letter_v, digit_v, wordAt_v, rword_v, isName_v, risName_v, rIsDate_v, rDay_v, rAmount_v, awk_v, lt, hbk, c0, zz, hn]
      simpa [SubA.refl] using fin 5 (by decide) hE
    | true =>
    simp (maxDischargeDepth := 16) only [argE_nil, argE_cons, ↓vmD, vmV, vmStd, Nat.reduceMul, ↓reduceIte, Nat.reduceAdd, Nat.reduceSub, Nat.reduceEqDiff, Nat.reduceLT, Nat.reduceLeDiff, reduceCtorEq, Int.reduceToNat, Int.reduceLT, Int.reduceLE, Int.reduceEq, Int.reduceNeg, Int.reduceBEq, Int.reduceBNe, String.reduceEq, forall_const, ↓vmDA, vmVA, ↓vmQA, vmR, vmRA, ↓vmSA, vmSV, tyS, nuE, SubA.skip, SubA.refl, fr.2, areDigits_v, panSum_v, rdigits_v, rsum_v, panLuhn_v, rLuhn_v, panCheck_v, rCheck_v, calIsDate_v, calDay_v, stLim_v, slIndexByte_v, indexByte_v, indexRune_v, containsRune_v, classOf_v, isWordByte_v, letter_v, digit_v, wordAt_v, rword_v, isName_v, risName_v, rIsDate_v, rDay_v, rAmount_v, awk_v, lt, hbk, c0, zz, hn]
    obtain ⟨k, N, hk, hN, hkle, hlf⟩ : ∃ (k : Nat) (N : List Lim), k = 0 ∧ N = (L.take e).drop k ∧ k ≤ (L.take e).length ∧ limF x.iss (L.take e) = limF x.iss N := ⟨0, L.take e, rfl, rfl, by simp, rfl⟩
    rw [show (5, some (Value.int .i64 0)) = (5, some (Value.int .i64 (k : Int))) by rw [hk]; rfl]
    clear hk nuE fr
    have hte : (L.take e).length = e := by rw [List.length_take]; omega
    induction N generalizing k with
    | cons y N ihN =>
      obtain ⟨hya, hyl, hN', _⟩ := drop_some hN
      have kl : ((k : Int) < (e : Int)) = True := eq_true (by omega)
      have kl2 : ((k : Int) < (L.length : Int)) = True := eq_true (by omega)
      have wk : IntKind.i64.wrap ((k : Int) + 1) = ((k + 1 : Nat) : Int) := by rw [w_i64 (by omega) (by omega)]; omega
      have hya2 : L[k]? = some y := by rw [List.getElem?_take] at hya; split at hya; exact hya; cases hya
      obtain ⟨bk2, off2, cs2, ty2, fr2, hp2, hbk2, hcr2, hcc2⟩ := hL.at hya2
      cases hp2
      rw [hbk] at hbk2
      cases hbk2
      have d0 : cs[off + k * 4]? = some (.string (bs y.iss)) := hcc2 0 _ rfl
      have t1 : ((bs y.iss).toList = (bs x.iss).toList) = (y.iss = x.iss) := by rw [bs_list, bs_list]
      refine LoopA.intro (by kernel_rfl) ?_
      intro ν fr; have nuE := fr.nu
      by_cases hy : y.iss = x.iss
      · have hyt := eq_true hy
        have hE : newE (L.take e) (x :: l) = 7 := by unfold newE; rw [if_neg (by rw [hn]; simp), if_pos (by rw [hlf]; simp [limF, hy])]
        simp (maxDischargeDepth := 16) only [argE_nil, argE_cons, ↓vmD, vmV, vmStd, Nat.reduceMul, ↓reduceIte, Nat.reduceAdd, Nat.reduceSub, Nat.reduceEqDiff, Nat.reduceLT, Nat.reduceLeDiff, reduceCtorEq, Int.reduceToNat, Int.reduceLT, Int.reduceLE, Int.reduceEq, Int.reduceNeg, Int.reduceBEq, Int.reduceBNe, String.reduceEq, forall_const, ↓vmDA, vmVA, ↓vmQA, vmR, vmRA, ↓vmSA, vmSV, tyS, nuE, SubA.skip, SubA.refl, fr.2, areDigits_v, panSum_v, rdigits_v, rsum_v, panLuhn_v, rLuhn_v, panCheck_v, rCheck_v, calIsDate_v, calDay_v, stLim_v, slIndexByte_v, indexByte_v, indexRune_v, containsRune_v, classOf_v, isWordByte_v, letter_v, digit_v, wordAt_v, rword_v, isName_v, risName_v, rIsDate_v, rDay_v, rAmount_v, awk_v, kl, kl2, lt, hbk, c0, d0, t1, hyt]
        simpa [SubA.refl] using fin 7 (by decide) hE
      · simp (maxDischargeDepth := 16) only [argE_nil, argE_cons, ↓vmD, vmV, vmStd, Nat.reduceMul, ↓reduceIte, Nat.reduceAdd, Nat.reduceSub, Nat.reduceEqDiff, Nat.reduceLT, Nat.reduceLeDiff, reduceCtorEq, Int.reduceToNat, Int.reduceLT, Int.reduceLE, Int.reduceEq, Int.reduceNeg, Int.reduceBEq, Int.reduceBNe, String.reduceEq, forall_const, ↓vmDA, vmVA, ↓vmQA, vmR, vmRA, ↓vmSA, vmSV, tyS, nuE, SubA.skip, SubA.refl, fr.2, areDigits_v, panSum_v, rdigits_v, rsum_v, panLuhn_v, rLuhn_v, panCheck_v, rCheck_v, calIsDate_v, calDay_v, stLim_v, slIndexByte_v, indexByte_v, indexRune_v, containsRune_v, classOf_v, isWordByte_v, letter_v, digit_v, wordAt_v, rword_v, isName_v, risName_v, rIsDate_v, rDay_v, rAmount_v, awk_v, kl, kl2, lt, hbk, c0, d0, t1, hy, wk]
        exact LoopA.weak (ihN (k + 1) hN' (by omega) (by rw [hlf]; simp [limF, hy])) (by simp only [subE, get_cons, Nat.reduceEqDiff, ↓reduceIte, reduceCtorEq, Nat.reduceAdd, and_self, and_true]) (SubA.refl _)
    | nil =>
      obtain ⟨gn1, gn2⟩ := drop_nil hN hkle
      have kl : ((k : Int) < (e : Int)) = False := eq_false (by omega)
      have hE : newE (L.take e) (x :: l) = if limOk x = false then 4 else newE (L.take (e + 1)) l := by
        rw [htk]; conv => lhs; unfold newE
        rw [if_neg (by rw [hn]; simp), if_neg (by rw [hlf]; simp [limF])]
      have v1 := fun A => rAmount_v x.each A
      have v2 := fun A => rAmount_v x.day A
      refine LoopA.intro (by kernel_rfl) ?_
      intro ν fr; have nuE := fr.nu
      cases h1 : (decide (0 ≤ x.each) && decide (x.each ≤ 999999999999)) with
      | false =>
        rw [if_pos (by unfold limOk; rw [h1]; rfl)] at hE
        simp only [h1] at v1
        simp (maxDischargeDepth := 16) only [argE_nil, argE_cons, ↓vmD, vmV, vmStd, Nat.reduceMul, ↓reduceIte, Nat.reduceAdd, Nat.reduceSub, Nat.reduceEqDiff, Nat.reduceLT, Nat.reduceLeDiff, reduceCtorEq, Int.reduceToNat, Int.reduceLT, Int.reduceLE, Int.reduceEq, Int.reduceNeg, Int.reduceBEq, Int.reduceBNe, String.reduceEq, forall_const, ↓vmDA, vmVA, ↓vmQA, vmR, vmRA, ↓vmSA, vmSV, tyS, nuE, SubA.skip, SubA.refl, fr.2, areDigits_v, panSum_v, rdigits_v, rsum_v, panLuhn_v, rLuhn_v, panCheck_v, rCheck_v, calIsDate_v, calDay_v, stLim_v, slIndexByte_v, indexByte_v, indexRune_v, containsRune_v, classOf_v, isWordByte_v, letter_v, digit_v, wordAt_v, rword_v, isName_v, risName_v, rIsDate_v, rDay_v, rAmount_v, awk_v, kl, lt, hbk, c1, c2, c3, v1]
        simpa [SubA.refl] using fin 4 (by decide) hE
      | true =>
      simp only [h1] at v1
      cases h2 : (decide (0 ≤ x.day) && decide (x.day ≤ 999999999999)) with
      | false =>
        rw [if_pos (by unfold limOk; rw [h1, h2]; rfl)] at hE
        simp only [h2] at v2
        simp (maxDischargeDepth := 16) only [argE_nil, argE_cons, ↓vmD, vmV, vmStd, Nat.reduceMul, ↓reduceIte, Nat.reduceAdd, Nat.reduceSub, Nat.reduceEqDiff, Nat.reduceLT, Nat.reduceLeDiff, reduceCtorEq, Int.reduceToNat, Int.reduceLT, Int.reduceLE, Int.reduceEq, Int.reduceNeg, Int.reduceBEq, Int.reduceBNe, String.reduceEq, forall_const, ↓vmDA, vmVA, ↓vmQA, vmR, vmRA, ↓vmSA, vmSV, tyS, nuE, SubA.skip, SubA.refl, fr.2, areDigits_v, panSum_v, rdigits_v, rsum_v, panLuhn_v, rLuhn_v, panCheck_v, rCheck_v, calIsDate_v, calDay_v, stLim_v, slIndexByte_v, indexByte_v, indexRune_v, containsRune_v, classOf_v, isWordByte_v, letter_v, digit_v, wordAt_v, rword_v, isName_v, risName_v, rIsDate_v, rDay_v, rAmount_v, awk_v, kl, lt, hbk, c1, c2, c3, v1, v2]
        simpa [SubA.refl] using fin 4 (by decide) hE
      | true =>
      simp only [h2] at v2
      by_cases h3 : x.cnt < 0
      · rw [if_pos (by unfold limOk; rw [h1, h2]; simp; omega)] at hE
        simp (maxDischargeDepth := 16) only [argE_nil, argE_cons, ↓vmD, vmV, vmStd, Nat.reduceMul, ↓reduceIte, Nat.reduceAdd, Nat.reduceSub, Nat.reduceEqDiff, Nat.reduceLT, Nat.reduceLeDiff, reduceCtorEq, Int.reduceToNat, Int.reduceLT, Int.reduceLE, Int.reduceEq, Int.reduceNeg, Int.reduceBEq, Int.reduceBNe, String.reduceEq, forall_const, ↓vmDA, vmVA, ↓vmQA, vmR, vmRA, ↓vmSA, vmSV, tyS, nuE, SubA.skip, SubA.refl, fr.2, areDigits_v, panSum_v, rdigits_v, rsum_v, panLuhn_v, rLuhn_v, panCheck_v, rCheck_v, calIsDate_v, calDay_v, stLim_v, slIndexByte_v, indexByte_v, indexRune_v, containsRune_v, classOf_v, isWordByte_v, letter_v, digit_v, wordAt_v, rword_v, isName_v, risName_v, rIsDate_v, rDay_v, rAmount_v, awk_v, kl, lt, hbk, c1, c2, c3, v1, v2, h3]
        simpa [SubA.refl] using fin 4 (by decide) hE
      by_cases h4 : 1000 < x.cnt
      · rw [if_pos (by unfold limOk; rw [h1, h2]; simp; omega)] at hE
        simp (maxDischargeDepth := 16) only [argE_nil, argE_cons, ↓vmD, vmV, vmStd, Nat.reduceMul, ↓reduceIte, Nat.reduceAdd, Nat.reduceSub, Nat.reduceEqDiff, Nat.reduceLT, Nat.reduceLeDiff, reduceCtorEq, Int.reduceToNat, Int.reduceLT, Int.reduceLE, Int.reduceEq, Int.reduceNeg, Int.reduceBEq, Int.reduceBNe, String.reduceEq, forall_const, ↓vmDA, vmVA, ↓vmQA, vmR, vmRA, ↓vmSA, vmSV, tyS, nuE, SubA.skip, SubA.refl, fr.2, areDigits_v, panSum_v, rdigits_v, rsum_v, panLuhn_v, rLuhn_v, panCheck_v, rCheck_v, calIsDate_v, calDay_v, stLim_v, slIndexByte_v, indexByte_v, indexRune_v, containsRune_v, classOf_v, isWordByte_v, letter_v, digit_v, wordAt_v, rword_v, isName_v, risName_v, rIsDate_v, rDay_v, rAmount_v, awk_v, kl, lt, hbk, c1, c2, c3, v1, v2, h3, h4]
        simpa [SubA.refl] using fin 4 (by decide) hE
      rw [if_neg (by unfold limOk; rw [h1, h2]; simp; omega)] at hE
      simp (maxDischargeDepth := 16) only [argE_nil, argE_cons, ↓vmD, vmV, vmStd, Nat.reduceMul, ↓reduceIte, Nat.reduceAdd, Nat.reduceSub, Nat.reduceEqDiff, Nat.reduceLT, Nat.reduceLeDiff, reduceCtorEq, Int.reduceToNat, Int.reduceLT, Int.reduceLE, Int.reduceEq, Int.reduceNeg, Int.reduceBEq, Int.reduceBNe, String.reduceEq, forall_const, ↓vmDA, vmVA, ↓vmQA, vmR, vmRA, ↓vmSA, vmSV, tyS, nuE, SubA.skip, SubA.refl, fr.2, areDigits_v, panSum_v, rdigits_v, rsum_v, panLuhn_v, rLuhn_v, panCheck_v, rCheck_v, calIsDate_v, calDay_v, stLim_v, slIndexByte_v, indexByte_v, indexRune_v, containsRune_v, classOf_v, isWordByte_v, letter_v, digit_v, wordAt_v, rword_v, isName_v, risName_v, rIsDate_v, rDay_v, rAmount_v, awk_v, kl, lt, hbk, c1, c2, c3, v1, v2, h3, h4, we]
      exact LoopA.weak (ih (e + 1) hd' (by omega) (hne.trans hE)) (by simp only [subE, get_cons, Nat.reduceEqDiff, ↓reduceIte, reduceCtorEq, Nat.reduceAdd, and_self, and_true]) (SubA.refl _)

end Go.Proofs.Ytmjkjpjjckcihaa
