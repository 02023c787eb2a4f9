/-
Stand-in: the examples of the chapter.
Conditions: none.
-/
import Derived.Test.YtmjkjpjjckcihaaStE
namespace Go.Proofs.Ytmjkjpjjckcihaa
open Go.Vm
set_option linter.unusedSimpArgs false
set_option linter.unusedVariables false
set_option maxHeartbeats 4000000
set_option maxRecDepth 20000
theorem NewS.use {A A1 : AH} {P : Program} {g : FuncId} {args : Array Value} {K : Value → AH → Prop} {L : List Lim} (h0 : newE [] L = 0)
    (hc : CallA P g args A fun u_ A_ => (newE [] L ≠ 0 ∧ u_ = .tuple #[.pointer none, .int .i64 (newE [] L)] ∧ SubA A A_) ∨ (newE [] L = 0 ∧ ∃ sb E, u_ = .tuple #[.pointer (some ⟨sb, 0, none⟩), .int .i64 0] ∧ StP E sb L [] ∧ Dis E A ∧ SubA (E ++ A) A_)) (hs : SubA A A1)
    (hk : ∀ sb E, StP E sb L [] → Dis E A → K (.tuple #[.pointer (some ⟨sb, 0, none⟩), .int .i64 0]) (E ++ A)) : CallA P g args A1 K :=
  CallA.use hc hs (fun v D h b hb => by
    rcases h with ⟨h, _⟩ | ⟨_, sb, E, _, _, d, h⟩
    · exact absurd h0 h
    · have := (SubA.trans d.right h)
      cases hx : Vm.look A b with
      | none => exact absurd hx hb
      | some o => rw [this b o hx]; simp) [] (SubA.nil _) (fun x hx => absurd rfl hx) (by
    rintro v D (⟨h, _⟩ | ⟨_, sb, E, rfl, h1, d, h⟩) dD
    · exact absurd h0 h
    · exact ⟨E ++ A, h, by rw [List.append_nil]; exact hk sb E h1 d⟩)
theorem StS.use {E X A1 : AH} {P : Program} {g : FuncId} {args : Array Value} {K : Value → AH → Prop} {u0 : Value} {sb : Nat} {lm : List Lim} {L' : List Dec}
    (hc : CallA P g args E fun u D => u = u0 ∧ ∃ E' D', StP E' sb lm D' ∧ D'.map Prod.snd = L' ∧ SubA E' D ∧ ∀ x, Vm.look E x ≠ none → Vm.look D x ≠ none) (hs : SubA E A1) (hX : SubA X A1) (hd : Dis E X)
    (hk : ∀ E' D', StP E' sb lm D' → D'.map Prod.snd = L' → Dis E' X → K u0 (E' ++ X)) : CallA P g args A1 K :=
  CallA.use hc hs (fun v D h b hb => h.2.choose_spec.choose_spec.2.2.2 b hb) X hX hd (by
    rintro v D ⟨rfl, E', D', h1, h2, h3, h4⟩ dD
    exact ⟨E', h3, hk E' D' h1 h2 (dD.subl h3)⟩)
theorem StS.use0 {E A1 : AH} {P : Program} {g : FuncId} {args : Array Value} {K : Value → AH → Prop} {u0 : Value} {sb : Nat} {lm : List Lim} {L' : List Dec}
    (hc : CallA P g args E fun u D => u = u0 ∧ ∃ E' D', StP E' sb lm D' ∧ D'.map Prod.snd = L' ∧ SubA E' D ∧ ∀ x, Vm.look E x ≠ none → Vm.look D x ≠ none) (hs : SubA E A1)
    (hk : ∀ E' D', StP E' sb lm D' → D'.map Prod.snd = L' → K u0 E') : CallA P g args A1 K :=
  StS.use (X := []) hc hs (SubA.nil _) (fun x hx => absurd rfl hx) (fun E' D' h1 h2 _ => by rw [List.append_nil]; exact hk E' D' h1 h2)
def HB : List UInt8 := [104, 111, 109, 101, 98, 97, 110, 107]
def CARD : List UInt8 := [52, 48, 48, 48, 48, 48, 48, 48, 48, 48, 48, 48, 48, 48, 55, 55]
def LM0 : List Lim := [⟨HB, 100, 250, 3⟩]
def W1 : Dec := ⟨[97], HB, CARD, 100, 10, 0, true, false, true⟩
def W2 : Dec := ⟨[98], HB, CARD, 100, 20, 0, true, false, true⟩
def W3 : Dec := ⟨[99], HB, CARD, 100, 30, 0, false, false, false⟩
def W4 : Dec := ⟨[100], HB, CARD, 50, 40, 0, true, false, true⟩
def W5 : Dec := ⟨[101], HB, CARD, 1, 50, 0, false, false, false⟩
def W1b : Dec := ⟨[97], HB, CARD, 100, 10, 0, true, false, false⟩
def W2b : Dec := ⟨[98], HB, CARD, 100, 20, 0, true, true, false⟩
theorem aw_n : newE [] LM0 = 0 := by decide +kernel
theorem aw_1 : decX LM0 [] 10 [97] HB CARD 100 = ((true, 0), [W1]) := by kernel_rfl
theorem aw_2 : decX LM0 [W1] 20 [98] HB CARD 100 = ((true, 0), [W1, W2]) := by kernel_rfl
theorem aw_3 : decX LM0 [W1, W2] 30 [99] HB CARD 100 = ((false, 0), [W1, W2, W3]) := by kernel_rfl
theorem aw_4 : decX LM0 [W1, W2, W3] 40 [100] HB CARD 50 = ((true, 0), [W1, W2, W3, W4]) := by kernel_rfl
theorem aw_5 : decX LM0 [W1, W2, W3, W4] 50 [101] HB CARD 1 = ((false, 0), [W1, W2, W3, W4, W5]) := by kernel_rfl
theorem aw_6 : decX LM0 [W1, W2, W3, W4, W5] 60 [97] [111, 116, 104, 101, 114] CARD 7 = ((true, 0), [W1, W2, W3, W4, W5]) := by kernel_rfl
theorem aw_7 : sumD CARD 0 [W1, W2, W3, W4, W5] = 250 ∧ cntD CARD 0 [W1, W2, W3, W4, W5] = 3 := by decide +kernel
theorem aw_8 : waitL HB [W1, W2, W3, W4, W5] = [W1, W2, W4] := by kernel_rfl
theorem aw_9 : ackX [97] [W1, W2, W3, W4, W5] = (0, [W1b, W2, W3, W4, W5]) := by kernel_rfl
theorem aw_10 : revX [98] [W1b, W2, W3, W4, W5] = (0, [W1b, W2b, W3, W4, W5]) := by kernel_rfl
theorem aw_11 : revX [98] [W1b, W2b, W3, W4, W5] = (8, [W1b, W2b, W3, W4, W5]) := by kernel_rfl
theorem aw_12 : ackX [98] [W1b, W2b, W3, W4, W5] = (6, [W1b, W2b, W3, W4, W5]) := by kernel_rfl
theorem aw_13 : waitL HB [W1b, W2b, W3, W4, W5] = [W4] := by kernel_rfl
theorem aw_14 : sumD CARD 0 [W1b, W2b, W3, W4, W5] = 150 ∧ cntD CARD 0 [W1b, W2b, W3, W4, W5] = 2 := by decide +kernel
theorem aw_15 : getX [99] [W1b, W2b, W3, W4, W5] = .tuple #[.bool false, .bool true] := by kernel_rfl
theorem sc_lim (a : ByteArray) (b c d : Int) : sliceCells Try.prog 22 1 [(0, .agg #[.string a, .int .i64 b, .int .i64 c, .int .i64 d])] = some (52, #[.string a, .int .i64 b, .int .i64 c, .int .i64 d]) := by kernel_rfl
theorem awk_h : CallA Try.prog 8 #[] [] (fun u_ _ => u_ = .bool true) := by
  refine callA_of_denA ⟨Try.prog, 8, Try.f8, 168, [0, 1, 2, 3, 5, 7, 8, 9, 11, 13, 14, 15, 16, 17, 18, 19, 20, 21], [9, 12, 23, 16, 14], [], _⟩ (args := []) Try.func8 rfl (by kernel_rfl) Try.ntmps8 (by simp) (by kernel_rfl) ?_
  intro ν fr; have nuE := fr.nu
  simp (maxDischargeDepth := 16) only [argE_nil, argE_cons, ↓vmD, vmV, vmStd, Nat.reduceMul, ↓reduceIte, Nat.reduceAdd, Nat.reduceSub, Nat.reduceEqDiff, Nat.reduceLT, Nat.reduceLeDiff, reduceCtorEq, Int.reduceToNat, Int.reduceLT, Int.reduceLE, Int.reduceEq, Int.reduceNeg, Int.reduceBEq, Int.reduceBNe, String.reduceEq, forall_const, ↓vmDA, vmVA, ↓vmQA, vmR, vmRA, ↓vmSA, vmSV, tyS, nuE, SubA.skip, SubA.refl, fr.2, areDigits_v, panSum_v, rdigits_v, rsum_v, panLuhn_v, rLuhn_v, panCheck_v, rCheck_v, calIsDate_v, calDay_v, stLim_v, slIndexByte_v, indexByte_v, indexRune_v, containsRune_v, classOf_v, isWordByte_v, letter_v, digit_v, wordAt_v, rword_v, isName_v, risName_v, sc_lim]
  have hL : StR limC 4 [(ν 0, Obj.cells #[.string ⟨#[104, 111, 109, 101, 98, 97, 110, 107]⟩, .int .i64 100, .int .i64 250, .int .i64 3] 52)] (some ⟨ν 0, 0, none⟩) LM0 := .inr ⟨ν 0, 0, _, _, _, rfl, by simp [Vm.look]; exact ⟨rfl, rfl, rfl⟩, fun i a hi => by
    match i, hi with
    | 0, hi => cases hi; rfl
    | i + 1, hi => simp [LM0] at hi⟩
  refine NewS.use aw_n (newS_h _ LM0 _ 1 hL (by decide) (by decide)) (SubA.refl _) ?_
  intro sb E0 hE0 d0
  intro ν1 fr1
  have fr := fr1
  have nuE := fr.nu
  simp (maxDischargeDepth := 16) only [argE_nil, argE_cons, ↓vmD, vmV, vmStd, Nat.reduceMul, ↓reduceIte, Nat.reduceAdd, Nat.reduceSub, Nat.reduceEqDiff, Nat.reduceLT, Nat.reduceLeDiff, reduceCtorEq, Int.reduceToNat, Int.reduceLT, Int.reduceLE, Int.reduceEq, Int.reduceNeg, Int.reduceBEq, Int.reduceBNe, String.reduceEq, forall_const, ↓vmDA, vmVA, ↓vmQA, vmR, vmRA, ↓vmSA, vmSV, tyS, nuE, SubA.skip, SubA.refl, fr.2, areDigits_v, panSum_v, rdigits_v, rsum_v, panLuhn_v, rLuhn_v, panCheck_v, rCheck_v, calIsDate_v, calDay_v, stLim_v, slIndexByte_v, indexByte_v, indexRune_v, containsRune_v, classOf_v, isWordByte_v, letter_v, digit_v, wordAt_v, rword_v, isName_v, risName_v]
  refine StS.use0 (decide_h E0 sb LM0 [] hE0 10 [97] HB CARD 100 (by decide)) (SubA.left _ _) ?_
  rw [show ([] : List (Nat × Dec)).map Prod.snd = [] from rfl, aw_1]
  intro E1 D1 hE1 hD1
  intro ν2 fr2
  have fr := fr2
  have nuE := fr.nu
  simp (maxDischargeDepth := 16) only [argE_nil, argE_cons, ↓vmD, vmV, vmStd, Nat.reduceMul, ↓reduceIte, Nat.reduceAdd, Nat.reduceSub, Nat.reduceEqDiff, Nat.reduceLT, Nat.reduceLeDiff, reduceCtorEq, Int.reduceToNat, Int.reduceLT, Int.reduceLE, Int.reduceEq, Int.reduceNeg, Int.reduceBEq, Int.reduceBNe, String.reduceEq, forall_const, ↓vmDA, vmVA, ↓vmQA, vmR, vmRA, ↓vmSA, vmSV, tyS, nuE, SubA.skip, SubA.refl, fr.2, areDigits_v, panSum_v, rdigits_v, rsum_v, panLuhn_v, rLuhn_v, panCheck_v, rCheck_v, calIsDate_v, calDay_v, stLim_v, slIndexByte_v, indexByte_v, indexRune_v, containsRune_v, classOf_v, isWordByte_v, letter_v, digit_v, wordAt_v, rword_v, isName_v, risName_v]
  refine StS.use0 (decide_h E1 sb LM0 D1 hE1 20 [98] HB CARD 100 (by decide)) (SubA.refl _) ?_
  rw [hD1, aw_2]
  intro E2 D2 hE2 hD2
  intro ν3 fr3
  have fr := fr3
  have nuE := fr.nu
  simp (maxDischargeDepth := 16) only [argE_nil, argE_cons, ↓vmD, vmV, vmStd, Nat.reduceMul, ↓reduceIte, Nat.reduceAdd, Nat.reduceSub, Nat.reduceEqDiff, Nat.reduceLT, Nat.reduceLeDiff, reduceCtorEq, Int.reduceToNat, Int.reduceLT, Int.reduceLE, Int.reduceEq, Int.reduceNeg, Int.reduceBEq, Int.reduceBNe, String.reduceEq, forall_const, ↓vmDA, vmVA, ↓vmQA, vmR, vmRA, ↓vmSA, vmSV, tyS, nuE, SubA.skip, SubA.refl, fr.2, areDigits_v, panSum_v, rdigits_v, rsum_v, panLuhn_v, rLuhn_v, panCheck_v, rCheck_v, calIsDate_v, calDay_v, stLim_v, slIndexByte_v, indexByte_v, indexRune_v, containsRune_v, classOf_v, isWordByte_v, letter_v, digit_v, wordAt_v, rword_v, isName_v, risName_v]
  refine StS.use0 (decide_h E2 sb LM0 D2 hE2 30 [99] HB CARD 100 (by decide)) (SubA.refl _) ?_
  rw [hD2, aw_3]
  intro E3 D3 hE3 hD3
  intro ν4 fr4
  have fr := fr4
  have nuE := fr.nu
  simp (maxDischargeDepth := 16) only [argE_nil, argE_cons, ↓vmD, vmV, vmStd, Nat.reduceMul, ↓reduceIte, Nat.reduceAdd, Nat.reduceSub, Nat.reduceEqDiff, Nat.reduceLT, Nat.reduceLeDiff, reduceCtorEq, Int.reduceToNat, Int.reduceLT, Int.reduceLE, Int.reduceEq, Int.reduceNeg, Int.reduceBEq, Int.reduceBNe, String.reduceEq, forall_const, ↓vmDA, vmVA, ↓vmQA, vmR, vmRA, ↓vmSA, vmSV, tyS, nuE, SubA.skip, SubA.refl, fr.2, areDigits_v, panSum_v, rdigits_v, rsum_v, panLuhn_v, rLuhn_v, panCheck_v, rCheck_v, calIsDate_v, calDay_v, stLim_v, slIndexByte_v, indexByte_v, indexRune_v, containsRune_v, classOf_v, isWordByte_v, letter_v, digit_v, wordAt_v, rword_v, isName_v, risName_v]
  refine StS.use0 (decide_h E3 sb LM0 D3 hE3 40 [100] HB CARD 50 (by decide)) (SubA.refl _) ?_
  rw [hD3, aw_4]
  intro E4 D4 hE4 hD4
  intro ν5 fr5
  have fr := fr5
  have nuE := fr.nu
  simp (maxDischargeDepth := 16) only [argE_nil, argE_cons, ↓vmD, vmV, vmStd, Nat.reduceMul, ↓reduceIte, Nat.reduceAdd, Nat.reduceSub, Nat.reduceEqDiff, Nat.reduceLT, Nat.reduceLeDiff, reduceCtorEq, Int.reduceToNat, Int.reduceLT, Int.reduceLE, Int.reduceEq, Int.reduceNeg, Int.reduceBEq, Int.reduceBNe, String.reduceEq, forall_const, ↓vmDA, vmVA, ↓vmQA, vmR, vmRA, ↓vmSA, vmSV, tyS, nuE, SubA.skip, SubA.refl, fr.2, areDigits_v, panSum_v, rdigits_v, rsum_v, panLuhn_v, rLuhn_v, panCheck_v, rCheck_v, calIsDate_v, calDay_v, stLim_v, slIndexByte_v, indexByte_v, indexRune_v, containsRune_v, classOf_v, isWordByte_v, letter_v, digit_v, wordAt_v, rword_v, isName_v, risName_v]
  refine StS.use0 (decide_h E4 sb LM0 D4 hE4 50 [101] HB CARD 1 (by decide)) (SubA.refl _) ?_
  rw [hD4, aw_5]
  intro E5 D5 hE5 hD5
  intro ν6 fr6
  have fr := fr6
  have nuE := fr.nu
  simp (maxDischargeDepth := 16) only [argE_nil, argE_cons, ↓vmD, vmV, vmStd, Nat.reduceMul, ↓reduceIte, Nat.reduceAdd, Nat.reduceSub, Nat.reduceEqDiff, Nat.reduceLT, Nat.reduceLeDiff, reduceCtorEq, Int.reduceToNat, Int.reduceLT, Int.reduceLE, Int.reduceEq, Int.reduceNeg, Int.reduceBEq, Int.reduceBNe, String.reduceEq, forall_const, ↓vmDA, vmVA, ↓vmQA, vmR, vmRA, ↓vmSA, vmSV, tyS, nuE, SubA.skip, SubA.refl, fr.2, areDigits_v, panSum_v, rdigits_v, rsum_v, panLuhn_v, rLuhn_v, panCheck_v, rCheck_v, calIsDate_v, calDay_v, stLim_v, slIndexByte_v, indexByte_v, indexRune_v, containsRune_v, classOf_v, isWordByte_v, letter_v, digit_v, wordAt_v, rword_v, isName_v, risName_v]
  refine StS.use0 (decide_h E5 sb LM0 D5 hE5 60 [97] [111, 116, 104, 101, 114] CARD 7 (by decide)) (SubA.refl _) ?_
  rw [hD5, aw_6]
  intro E6 D6 hE6 hD6
  have uv : valA Try.prog 20 #[.pointer (some ⟨sb, 0, none⟩), .string ⟨#[52, 48, 48, 48, 48, 48, 48, 48, 48, 48, 48, 48, 48, 48, 55, 55]⟩, .int .i64 0] E6 = some (.tuple #[.int .i64 250, .int .i64 3]) := by
    have := used_v E6 sb LM0 D6 hE6 CARD 0
    rw [hD6, aw_7.1, aw_7.2] at this
    exact this
  intro ν7 fr7
  have fr := fr7
  have nuE := fr.nu
  simp (maxDischargeDepth := 16) only [argE_nil, argE_cons, ↓vmD, vmV, vmStd, Nat.reduceMul, ↓reduceIte, Nat.reduceAdd, Nat.reduceSub, Nat.reduceEqDiff, Nat.reduceLT, Nat.reduceLeDiff, reduceCtorEq, Int.reduceToNat, Int.reduceLT, Int.reduceLE, Int.reduceEq, Int.reduceNeg, Int.reduceBEq, Int.reduceBNe, String.reduceEq, forall_const, ↓vmDA, vmVA, ↓vmQA, vmR, vmRA, ↓vmSA, vmSV, tyS, nuE, SubA.skip, SubA.refl, fr.2, areDigits_v, panSum_v, rdigits_v, rsum_v, panLuhn_v, rLuhn_v, panCheck_v, rCheck_v, calIsDate_v, calDay_v, stLim_v, slIndexByte_v, indexByte_v, indexRune_v, containsRune_v, classOf_v, isWordByte_v, letter_v, digit_v, wordAt_v, rword_v, isName_v, risName_v, uv]
  refine CallA.go (waiting_h E6 sb LM0 D6 hE6 HB) (SubA.refl _) (fun v D h => SubA.trans h.choose_spec.choose_spec.2.2.1.right h.choose_spec.choose_spec.2.2.2) ?_
  rintro v A0 A1 ⟨v1, B1, rfl, ho1, dB1, hs1⟩ hA1 hEA _
  rw [hD6, aw_8] at ho1
  obtain ⟨q1, c1, rfl, _⟩ := ho1.slice
  intro ν8 fr8
  have fr := fr8
  have nuE := fr.nu
  simp (maxDischargeDepth := 16) only [argE_nil, argE_cons, ↓vmD, vmV, vmStd, Nat.reduceMul, ↓reduceIte, Nat.reduceAdd, Nat.reduceSub, Nat.reduceEqDiff, Nat.reduceLT, Nat.reduceLeDiff, reduceCtorEq, Int.reduceToNat, Int.reduceLT, Int.reduceLE, Int.reduceEq, Int.reduceNeg, Int.reduceBEq, Int.reduceBNe, String.reduceEq, forall_const, ↓vmDA, vmVA, ↓vmQA, vmR, vmRA, ↓vmSA, vmSV, tyS, nuE, SubA.skip, SubA.refl, fr.2, areDigits_v, panSum_v, rdigits_v, rsum_v, panLuhn_v, rLuhn_v, panCheck_v, rCheck_v, calIsDate_v, calDay_v, stLim_v, slIndexByte_v, indexByte_v, indexRune_v, containsRune_v, classOf_v, isWordByte_v, letter_v, digit_v, wordAt_v, rword_v, isName_v, risName_v]
  refine StS.use0 (ack_h E6 sb LM0 D6 hE6 [97]) (hEA) ?_
  rw [hD6, aw_9]
  intro E8 D8 hE8 hD8
  intro ν9 fr9
  have fr := fr9
  have nuE := fr.nu
  simp (maxDischargeDepth := 16) only [argE_nil, argE_cons, ↓vmD, vmV, vmStd, Nat.reduceMul, ↓reduceIte, Nat.reduceAdd, Nat.reduceSub, Nat.reduceEqDiff, Nat.reduceLT, Nat.reduceLeDiff, reduceCtorEq, Int.reduceToNat, Int.reduceLT, Int.reduceLE, Int.reduceEq, Int.reduceNeg, Int.reduceBEq, Int.reduceBNe, String.reduceEq, forall_const, ↓vmDA, vmVA, ↓vmQA, vmR, vmRA, ↓vmSA, vmSV, tyS, nuE, SubA.skip, SubA.refl, fr.2, areDigits_v, panSum_v, rdigits_v, rsum_v, panLuhn_v, rLuhn_v, panCheck_v, rCheck_v, calIsDate_v, calDay_v, stLim_v, slIndexByte_v, indexByte_v, indexRune_v, containsRune_v, classOf_v, isWordByte_v, letter_v, digit_v, wordAt_v, rword_v, isName_v, risName_v]
  refine StS.use0 (reverse_h E8 sb LM0 D8 hE8 [98]) (SubA.refl _) ?_
  rw [hD8, aw_10]
  intro E9 D9 hE9 hD9
  intro ν10 fr10
  have fr := fr10
  have nuE := fr.nu
  simp (maxDischargeDepth := 16) only [argE_nil, argE_cons, ↓vmD, vmV, vmStd, Nat.reduceMul, ↓reduceIte, Nat.reduceAdd, Nat.reduceSub, Nat.reduceEqDiff, Nat.reduceLT, Nat.reduceLeDiff, reduceCtorEq, Int.reduceToNat, Int.reduceLT, Int.reduceLE, Int.reduceEq, Int.reduceNeg, Int.reduceBEq, Int.reduceBNe, String.reduceEq, forall_const, ↓vmDA, vmVA, ↓vmQA, vmR, vmRA, ↓vmSA, vmSV, tyS, nuE, SubA.skip, SubA.refl, fr.2, areDigits_v, panSum_v, rdigits_v, rsum_v, panLuhn_v, rLuhn_v, panCheck_v, rCheck_v, calIsDate_v, calDay_v, stLim_v, slIndexByte_v, indexByte_v, indexRune_v, containsRune_v, classOf_v, isWordByte_v, letter_v, digit_v, wordAt_v, rword_v, isName_v, risName_v]
  refine StS.use0 (reverse_h E9 sb LM0 D9 hE9 [98]) (SubA.refl _) ?_
  rw [hD9, aw_11]
  intro E10 D10 hE10 hD10
  intro ν11 fr11
  have fr := fr11
  have nuE := fr.nu
  simp (maxDischargeDepth := 16) only [argE_nil, argE_cons, ↓vmD, vmV, vmStd, Nat.reduceMul, ↓reduceIte, Nat.reduceAdd, Nat.reduceSub, Nat.reduceEqDiff, Nat.reduceLT, Nat.reduceLeDiff, reduceCtorEq, Int.reduceToNat, Int.reduceLT, Int.reduceLE, Int.reduceEq, Int.reduceNeg, Int.reduceBEq, Int.reduceBNe, String.reduceEq, forall_const, ↓vmDA, vmVA, ↓vmQA, vmR, vmRA, ↓vmSA, vmSV, tyS, nuE, SubA.skip, SubA.refl, fr.2, areDigits_v, panSum_v, rdigits_v, rsum_v, panLuhn_v, rLuhn_v, panCheck_v, rCheck_v, calIsDate_v, calDay_v, stLim_v, slIndexByte_v, indexByte_v, indexRune_v, containsRune_v, classOf_v, isWordByte_v, letter_v, digit_v, wordAt_v, rword_v, isName_v, risName_v]
  refine StS.use0 (ack_h E10 sb LM0 D10 hE10 [98]) (SubA.refl _) ?_
  rw [hD10, aw_12]
  intro E11 D11 hE11 hD11
  intro ν12 fr12
  have fr := fr12
  have nuE := fr.nu
  simp (maxDischargeDepth := 16) only [argE_nil, argE_cons, ↓vmD, vmV, vmStd, Nat.reduceMul, ↓reduceIte, Nat.reduceAdd, Nat.reduceSub, Nat.reduceEqDiff, Nat.reduceLT, Nat.reduceLeDiff, reduceCtorEq, Int.reduceToNat, Int.reduceLT, Int.reduceLE, Int.reduceEq, Int.reduceNeg, Int.reduceBEq, Int.reduceBNe, String.reduceEq, forall_const, ↓vmDA, vmVA, ↓vmQA, vmR, vmRA, ↓vmSA, vmSV, tyS, nuE, SubA.skip, SubA.refl, fr.2, areDigits_v, panSum_v, rdigits_v, rsum_v, panLuhn_v, rLuhn_v, panCheck_v, rCheck_v, calIsDate_v, calDay_v, stLim_v, slIndexByte_v, indexByte_v, indexRune_v, containsRune_v, classOf_v, isWordByte_v, letter_v, digit_v, wordAt_v, rword_v, isName_v, risName_v]
  refine CallA.go (waiting_h E11 sb LM0 D11 hE11 HB) (SubA.refl _) (fun v D h => SubA.trans h.choose_spec.choose_spec.2.2.1.right h.choose_spec.choose_spec.2.2.2) ?_
  rintro v A0 A2 ⟨v2, B2, rfl, ho2, dB2, hs2⟩ hA2 hEA2 _
  rw [hD11, aw_13] at ho2
  obtain ⟨q2, c2, rfl, _, st2⟩ := ho2.read advC_len
  obtain ⟨bk, off, cs, ty, fr0, hp0, hbk, hcr, hcc⟩ := st2.at (i := 0) (a := W4) rfl
  subst hp0
  have lbk := hA2 _ _ (hs2 _ _ (SubA.left B2 E11 _ _ hbk))
  rw [show off + 0 * 5 = off by omega] at hcr
  have uv2 : valA Try.prog 20 #[.pointer (some ⟨sb, 0, none⟩), .string ⟨#[52, 48, 48, 48, 48, 48, 48, 48, 48, 48, 48, 48, 48, 48, 55, 55]⟩, .int .i64 0] A2 = some (.tuple #[.int .i64 150, .int .i64 2]) := by
    have := used_w E11 sb LM0 D11 hE11 CARD 0 A2 hEA2
    rw [hD11, aw_14.1, aw_14.2] at this
    exact this
  have dv : valA Try.prog 18 #[.pointer (some ⟨sb, 0, none⟩), .string ⟨#[99]⟩] A2 = some (.tuple #[.bool false, .bool true]) := by
    have := decision_w E11 sb LM0 D11 hE11 [99] A2 hEA2
    rw [hD11, aw_15] at this
    exact this
  intro ν13 fr13
  have fr := fr13
  have nuE := fr.nu
  simp (maxDischargeDepth := 16) only [argE_nil, argE_cons, ↓vmD, vmV, vmStd, Nat.reduceMul, ↓reduceIte, Nat.reduceAdd, Nat.reduceSub, Nat.reduceEqDiff, Nat.reduceLT, Nat.reduceLeDiff, reduceCtorEq, Int.reduceToNat, Int.reduceLT, Int.reduceLE, Int.reduceEq, Int.reduceNeg, Int.reduceBEq, Int.reduceBNe, String.reduceEq, forall_const, ↓vmDA, vmVA, ↓vmQA, vmR, vmRA, ↓vmSA, vmSV, tyS, nuE, SubA.skip, SubA.refl, fr.2, areDigits_v, panSum_v, rdigits_v, rsum_v, panLuhn_v, rLuhn_v, panCheck_v, rCheck_v, calIsDate_v, calDay_v, stLim_v, slIndexByte_v, indexByte_v, indexRune_v, containsRune_v, classOf_v, isWordByte_v, letter_v, digit_v, wordAt_v, rword_v, isName_v, risName_v, uv2, dv, lbk, hcr, advC, W4, HB, CARD, bs]
theorem awk_v (A_ : AH) : valA Try.prog 8 #[] A_ = some (.bool true) := valA_eq (pureA_of (by kernel_rfl) (awk_h ))
end Go.Proofs.Ytmjkjpjjckcihaa
