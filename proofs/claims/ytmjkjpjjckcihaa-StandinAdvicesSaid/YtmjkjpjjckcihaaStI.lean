/-
Stand-in: the walk of the law StandinAdvices.
Conditions: none.
-/
import Derived.Test.YtmjkjpjjckcihaaStH
namespace Go.Proofs.Ytmjkjpjjckcihaa
open Go.Vm
set_option linter.unusedSimpArgs false
set_option linter.unusedVariables false
set_option maxHeartbeats 8000000
set_option maxRecDepth 20000
theorem NewS.useX {A A1 X : AH} {P : Program} {g : FuncId} {args : Array Value} {K : Value → AH → Prop} {L : List Lim} (h0 : newE [] L = 0)
    (hc : CallA P g args A fun u_ A_ => (newE [] L ≠ 0 ∧ u_ = .tuple #[.pointer none, .int .i64 (newE [] L)] ∧ SubA A A_) ∨ (newE [] L = 0 ∧ ∃ sb E, u_ = .tuple #[.pointer (some ⟨sb, 0, none⟩), .int .i64 0] ∧ StP E sb L [] ∧ Dis E A ∧ SubA (E ++ A) A_)) (hs : SubA A A1) (hX : SubA X A1) (hd : Dis A X)
    (hk : ∀ sb E, StP E sb L [] → Dis E X → K (.tuple #[.pointer (some ⟨sb, 0, none⟩), .int .i64 0]) (E ++ X)) : CallA P g args A1 K :=
  CallA.use hc hs (fun v D h b hb => by
    rcases h with ⟨h, _⟩ | ⟨_, sb, E, _, _, d, h⟩
    · exact absurd h0 h
    · have := (SubA.trans d.right h)
      cases hx : Vm.look A b with
      | none => exact absurd hx hb
      | some o => rw [this b o hx]; simp) X hX hd (by
    rintro v D (⟨h, _⟩ | ⟨_, sb, E, rfl, h1, d, h⟩) dD
    · exact absurd h0 h
    · have hs := SubA.trans (SubA.left E A) h
      exact ⟨E, hs, hk sb E h1 (dD.subl hs)⟩)
def BANK : List UInt8 := [98, 97, 110, 107]
def OTH : List UInt8 := [111, 116, 104, 101, 114]
def LMB : List Lim := [⟨BANK, 999999999999, 999999999999, 1000⟩]
theorem aw_nb : newE [] LMB = 0 := by decide +kernel
theorem bank_oth : BANK ≠ OTH := by decide
theorem getX_two (k : List UInt8) (L : List Dec) : ∃ a, getX k L = .tuple #[.bool a, .bool (posD k L).isSome] := by
  unfold getX
  cases hp : posD k L with
  | none => exact ⟨false, rfl⟩
  | some i =>
    obtain ⟨d, hd, _⟩ := posD_some hp
    simp only [hd]
    exact ⟨_, rfl⟩
theorem app_adv {v' : Value} {B' : AH} {T : List Dec} {t : Dec} {xs : List Value} (hx : advC t = xs) (ho' : OwnZ 64 5 v' B' (T.length + 1) (T.flatMap advC ++ xs)) : OwnL advC 5 64 v' B' (T ++ [t]) := by
  subst hx
  exact adv_app ho'
theorem advLaw_h (A : AH) (L : List OpT) (q : Option Addr) (cap : Nat) (hL : StR opC 6 A q L) (hl : L.length ≤ 9223372036854775807) : CallA Try.prog 5 #[.slice q L.length cap] A (fun u_ A_ => u_ = .bool true ∧ SubA A A_) := by
  refine callA_of_denA ⟨Try.prog, 5, Try.f5, 164, [0, 2, 3, 4, 5, 6, 7, 9, 10, 11, 12, 13, 14, 15, 16, 17, 45], [9, 12, 23, 16, 14], [(17, .q false), (40, .q false)], _⟩ (args := [_]) Try.func5 rfl (by kernel_rfl) Try.ntmps5 (by simp) (by kernel_rfl) ?_
  intro ν fr; have nuE := fr.nu
  simp (maxDischargeDepth := 16) only [argE_nil, argE_cons, ↓vmD, vmV, vmStd, Nat.reduceMul, ↓reduceIte, Nat.reduceAdd, Nat.reduceSub, Nat.reduceEqDiff, Nat.reduceLT, Nat.reduceLeDiff, reduceCtorEq, Int.reduceToNat, Int.reduceLT, Int.reduceLE, Int.reduceEq, Int.reduceNeg, Int.reduceBEq, Int.reduceBNe, String.reduceEq, forall_const, ↓vmDA, vmVA, ↓vmQA, vmR, vmRA, ↓vmSA, vmSV, tyS, nuE, SubA.skip, SubA.refl, fr.2, areDigits_v, panSum_v, rdigits_v, rsum_v, panLuhn_v, rLuhn_v, panCheck_v, rCheck_v, calIsDate_v, calDay_v, stLim_v, slIndexByte_v, indexByte_v, indexRune_v, containsRune_v, classOf_v, isWordByte_v, letter_v, digit_v, wordAt_v, rword_v, isName_v, risName_v, awk_v, sc_lim]
  have f0 := fr.2 0
  have hLm : StR limC 4 [(ν 0, Obj.cells #[.string ⟨#[98, 97, 110, 107]⟩, .int .i64 999999999999, .int .i64 999999999999, .int .i64 1000] 52)] (some ⟨ν 0, 0, none⟩) LMB := .inr ⟨ν 0, 0, _, _, _, rfl, by simp [Vm.look]; exact ⟨rfl, rfl, rfl⟩, fun i a hi => by
    match i, hi with
    | 0, hi => cases hi; rfl
    | i + 1, hi => simp [LMB] at hi⟩
  refine NewS.useX (X := A) aw_nb (newS_h _ LMB _ 1 hLm (by decide) (by decide)) (SubA.left [_] A) (SubA.skip f0 (SubA.refl _)) (Dis.one f0) ?_
  intro sb E0 hE0 dx0
  have sv : valA Try.prog 7 #[.slice none 0 0, .slice q L.length cap] (E0 ++ A) = some (.bool (smallB [] L)) := small_w A [] L none q 0 cap (.inl rfl) hL (by simp) hl _ dx0.right
  have sA0 : SubA A (E0 ++ A) := dx0.right
  intro ν1 fr1
  have fr := fr1
  have nuE := fr.nu
  cases hsm : smallB [] L with
  | false =>
    rw [hsm] at sv
    simp (maxDischargeDepth := 16) only [argE_nil, argE_cons, ↓vmD, vmV, vmStd, Nat.reduceMul, ↓reduceIte, Nat.reduceAdd, Nat.reduceSub, Nat.reduceEqDiff, Nat.reduceLT, Nat.reduceLeDiff, reduceCtorEq, Int.reduceToNat, Int.reduceLT, Int.reduceLE, Int.reduceEq, Int.reduceNeg, Int.reduceBEq, Int.reduceBNe, String.reduceEq, forall_const, ↓vmDA, vmVA, ↓vmQA, vmR, vmRA, ↓vmSA, vmSV, tyS, nuE, SubA.skip, SubA.refl, fr.2, areDigits_v, panSum_v, rdigits_v, rsum_v, panLuhn_v, rLuhn_v, panCheck_v, rCheck_v, calIsDate_v, calDay_v, stLim_v, slIndexByte_v, indexByte_v, indexRune_v, containsRune_v, classOf_v, isWordByte_v, letter_v, digit_v, wordAt_v, rword_v, isName_v, risName_v, awk_v, sv]
    exact sA0
  | true =>
  rw [hsm] at sv
  simp (maxDischargeDepth := 16) only [argE_nil, argE_cons, ↓vmD, vmV, vmStd, Nat.reduceMul, ↓reduceIte, Nat.reduceAdd, Nat.reduceSub, Nat.reduceEqDiff, Nat.reduceLT, Nat.reduceLeDiff, reduceCtorEq, Int.reduceToNat, Int.reduceLT, Int.reduceLE, Int.reduceEq, Int.reduceNeg, Int.reduceBEq, Int.reduceBNe, String.reduceEq, forall_const, ↓vmDA, vmVA, ↓vmQA, vmR, vmRA, ↓vmSA, vmSV, tyS, nuE, SubA.skip, SubA.refl, fr.2, areDigits_v, panSum_v, rdigits_v, rsum_v, panLuhn_v, rLuhn_v, panCheck_v, rCheck_v, calIsDate_v, calDay_v, stLim_v, slIndexByte_v, indexByte_v, indexRune_v, containsRune_v, classOf_v, isWordByte_v, letter_v, digit_v, wordAt_v, rword_v, isName_v, risName_v, awk_v, sv]
  have h60 : L.length ≤ 60 := by unfold smallB at hsm; simp at hsm; exact hsm.1
  obtain ⟨e, l, D, E, v, B, he, hv, hB, hEE, hd, hle, hE, hI, ho, sp⟩ : ∃ (e : Nat) (l : List OpT) (D : List (Nat × Dec)) (E : AH) (v : Value) (B : AH), e = 0 ∧ v = .slice none 0 0 ∧ B = [] ∧ E = E0 ∧ l = L.drop e ∧ e ≤ L.length ∧ StP E sb LMB D ∧ (∀ d ∈ D.map Prod.snd, d.iss = BANK) ∧ OwnL advC 5 64 v B (waitL BANK (D.map Prod.snd)) ∧ Sep [E, B, A] :=
    ⟨0, L, [], E0, _, [], rfl, rfl, rfl, rfl, rfl, by simp, hE0, (fun d hd => by simp at hd), OwnL.nil _ _ _, Sep.cons (show Dis E0 (cat [[], A]) from dx0) (Sep.cons (Dis.nil _) (Sep.one A))⟩
  rw [show (6, some (Value.int .i64 0)) = (6, some (Value.int .i64 (e : Int))) by rw [he]; rfl]
  rw [show (5, some (Value.slice none 0 0)) = (5, some v) by rw [hv]]
  refine LoopA.at (A := cat [E, B, A]) (by rw [hB, hEE]; exact SubA.refl _) ?_
  clear he hv hB hEE nuE fr fr1 hE0 dx0 sA0 sv f0 hLm
  simp only [cat]
  induction l generalizing e D E v B with
  | nil =>
    obtain ⟨hn1, hn2⟩ := drop_nil hd hle
    have lt : ((e : Int) < (L.length : Int)) = False := eq_false (by omega)
    have sA : SubA A (E ++ (B ++ A)) := sp.subs [2] rfl
    refine LoopA.intro (by kernel_rfl) ?_
    intro ν fr; have nuE := fr.nu
    simp (maxDischargeDepth := 16) only [argE_nil, argE_cons, ↓vmD, vmV, vmStd, Nat.reduceMul, ↓reduceIte, Nat.reduceAdd, Nat.reduceSub, Nat.reduceEqDiff, Nat.reduceLT, Nat.reduceLeDiff, reduceCtorEq, Int.reduceToNat, Int.reduceLT, Int.reduceLE, Int.reduceEq, Int.reduceNeg, Int.reduceBEq, Int.reduceBNe, String.reduceEq, forall_const, ↓vmDA, vmVA, ↓vmQA, vmR, vmRA, ↓vmSA, vmSV, tyS, nuE, SubA.skip, SubA.refl, fr.2, areDigits_v, panSum_v, rdigits_v, rsum_v, panLuhn_v, rLuhn_v, panCheck_v, rCheck_v, calIsDate_v, calDay_v, stLim_v, slIndexByte_v, indexByte_v, indexRune_v, containsRune_v, classOf_v, isWordByte_v, letter_v, digit_v, wordAt_v, rword_v, isName_v, risName_v, awk_v, lt]
    exact sA
  | cons x l ih =>
    obtain ⟨ha, hlt, hd', htk⟩ := drop_some hd
    have lt : ((e : Int) < (L.length : Int)) = True := eq_true (by omega)
    have we : IntKind.i64.wrap ((e : Int) + 1) = ((e + 1 : Nat) : Int) := by rw [w_i64 (by omega) (by omega)]; omega
    obtain ⟨bk, off, cs, ty, fr0, hp0, hbk, hcr, hcc⟩ := hL.at ha
    subst hp0
    have sA : SubA A (E ++ (B ++ A)) := sp.subs [2] rfl
    have lbk := sA _ _ hbk
    obtain ⟨_, _, _, _, _, _, _, _, _, _, _, _, _, _, _, _, _, _, _, hu, hamt, hlen, hwa⟩ := hE.out
    obtain ⟨q1, c1, rfl, _, st1⟩ := ho.read advC_len
    have hM := waitL_len (D.map Prod.snd) BANK
    refine LoopA.intro (by kernel_rfl) ?_
    intro ν fr; have nuE := fr.nu
    have f0 := fr.2 0
    have sp0 : Sep [[(ν 0, (Obj.cells #[.int .i64 x.kind, .int .i64 x.at_, .string (bs x.key), .string (bs x.iss), .string (bs x.card), .int .i64 x.amt] 36))], E, B, A] := Sep.fresh (by simpa [cat] using f0) _ sp
    by_cases hk0 : x.kind = 0
    · have hk0t := eq_true hk0
      obtain ⟨av, hgx⟩ := getX_two x.key (D.map Prod.snd)
      have dv := decision_w E sb LMB D hE x.key _ (sp0.subs [1] rfl)
      rw [hgx] at dv
      have hdo := dec_out LMB (D.map Prod.snd) (e : Int) x.key BANK CARD x.amt
      have nbk := fr.ne (b := bk) (by rw [lbk]; simp)
      simp only [cat, pick, at_, List.cons_append, List.nil_append] at dv
      simp (maxDischargeDepth := 16) only [argE_nil, argE_cons, ↓vmD, vmV, vmStd, Nat.reduceMul, ↓reduceIte, Nat.reduceAdd, Nat.reduceSub, Nat.reduceEqDiff, Nat.reduceLT, Nat.reduceLeDiff, reduceCtorEq, Int.reduceToNat, Int.reduceLT, Int.reduceLE, Int.reduceEq, Int.reduceNeg, Int.reduceBEq, Int.reduceBNe, String.reduceEq, forall_const, ↓vmDA, vmVA, ↓vmQA, vmR, vmRA, ↓vmSA, vmSV, tyS, nuE, SubA.skip, SubA.refl, fr.2, areDigits_v, panSum_v, rdigits_v, rsum_v, panLuhn_v, rLuhn_v, panCheck_v, rCheck_v, calIsDate_v, calDay_v, stLim_v, slIndexByte_v, indexByte_v, indexRune_v, containsRune_v, classOf_v, isWordByte_v, letter_v, digit_v, wordAt_v, rword_v, isName_v, risName_v, awk_v, lt, lbk, hcr, opC, hk0t, nbk, dv]
      generalize ν 0 = n at *
      refine StS.use (X := cat [[(n, (Obj.cells #[.int .i64 x.kind, .int .i64 x.at_, .string (bs x.key), .string (bs x.iss), .string (bs x.card), .int .i64 x.amt] 36))], B, A]) (decide_h E sb LMB D hE (e : Int) x.key BANK CARD x.amt (by decide)) (sp0.subs [1] rfl) (sp0.subs [0, 2, 3] rfl) (sp0.pick [1, 0, 2, 3] rfl rfl).dis ?_
      generalize decX LMB (D.map Prod.snd) (e : Int) x.key BANK CARD x.amt = R at hdo ⊢
      obtain ⟨⟨ok, f⟩, L1⟩ := R
      simp only at hdo ⊢
      intro E1 D1 hE1 hD1 d1
      have sp1 : Sep [E1, [(n, (Obj.cells #[.int .i64 x.kind, .int .i64 x.at_, .string (bs x.key), .string (bs x.iss), .string (bs x.card), .int .i64 x.amt] 36))], B, A] := Sep.cons d1 (sp0.pick [0, 2, 3] rfl rfl)
      have lk1 : Vm.look (E1 ++ cat [[(n, (Obj.cells #[.int .i64 x.kind, .int .i64 x.at_, .string (bs x.key), .string (bs x.iss), .string (bs x.card), .int .i64 x.amt] 36))], B, A]) n = some (Obj.cells #[.int .i64 x.kind, .int .i64 x.at_, .string (bs x.key), .string (bs x.iss), .string (bs x.card), .int .i64 x.amt] 36) := sp1.sub [(n, (Obj.cells #[.int .i64 x.kind, .int .i64 x.at_, .string (bs x.key), .string (bs x.iss), .string (bs x.card), .int .i64 x.amt] 36))] (by simp) _ _ (by simp [Vm.look])
      have sE : SubA E1 (E1 ++ cat [[(n, (Obj.cells #[.int .i64 x.kind, .int .i64 x.at_, .string (bs x.key), .string (bs x.iss), .string (bs x.card), .int .i64 x.amt] 36))], B, A]) := sp1.subs [0] rfl
      have spT : Sep [E1, B, A] := sp1.pick [0, 2, 3] rfl rfl
      have sT : SubA (cat [E1, B, A]) (E1 ++ cat [[(n, (Obj.cells #[.int .i64 x.kind, .int .i64 x.at_, .string (bs x.key), .string (bs x.iss), .string (bs x.card), .int .i64 x.amt] 36))], B, A]) := sp1.subs [0, 2, 3] rfl
      intro ν1 fr1
      have fr := fr1
      have nuE := fr.nu
      rcases hdo with ⟨h1, h2⟩ | ⟨h1, h2, d, h3, k1, k2, k3, k4, k5, k6⟩
      · rw [h1] at hD1
        have hI1 : ∀ d ∈ D1.map Prod.snd, d.iss = BANK := by rw [hD1]; exact hI
        have ho1 : OwnL advC 5 64 (.slice q1 (waitL BANK (D.map Prod.snd)).length c1) B (waitL BANK (D1.map Prod.snd)) := by rw [hD1]; exact ho
        have hl1 : (waitL BANK (D.map Prod.snd)).length = (waitL BANK (D1.map Prod.snd)).length := by rw [hD1]
        rw [← hD1] at st1
        cases ok with
        | false =>
          simp (maxDischargeDepth := 16) only [argE_nil, argE_cons, ↓vmD, vmV, vmStd, Nat.reduceMul, ↓reduceIte, Nat.reduceAdd, Nat.reduceSub, Nat.reduceEqDiff, Nat.reduceLT, Nat.reduceLeDiff, reduceCtorEq, Int.reduceToNat, Int.reduceLT, Int.reduceLE, Int.reduceEq, Int.reduceNeg, Int.reduceBEq, Int.reduceBNe, String.reduceEq, forall_const, ↓vmDA, vmVA, ↓vmQA, vmR, vmRA, ↓vmSA, vmSV, tyS, nuE, SubA.skip, SubA.refl, fr.2, areDigits_v, panSum_v, rdigits_v, rsum_v, panLuhn_v, rLuhn_v, panCheck_v, rCheck_v, calIsDate_v, calDay_v, stLim_v, slIndexByte_v, indexByte_v, indexRune_v, containsRune_v, classOf_v, isWordByte_v, letter_v, digit_v, wordAt_v, rword_v, isName_v, risName_v, awk_v, lk1]
          refine CallA.go (waiting_h E1 sb LMB D1 hE1 BANK) sE (fun v D h => SubA.trans h.choose_spec.choose_spec.2.2.1.right h.choose_spec.choose_spec.2.2.2) ?_
          rintro v2 A0 Q1 ⟨v2', B2, rfl, ho2, dB2, hs2⟩ hA1 hQ1 _
          obtain ⟨q2, c2, rfl, _, st2⟩ := ho2.read advC_len
          have st2' := st2.mono (SubA.trans (SubA.left B2 E1) (SubA.trans hs2 hA1))
          have st1' := st1.mono (SubA.trans (spT.subs [1] rfl : SubA B (cat [E1, B, A])) (SubA.trans sT hQ1))
          have hMl := waitL_len (D1.map Prod.snd) BANK
          obtain ⟨_, _, _, _, _, _, _, _, _, _, _, _, _, _, _, _, _, _, _, hu1, hamt1, hlen1, _⟩ := hE1.out
          intro ν5 fr5
          have fr := fr5
          have nuE := fr.nu
          simp (maxDischargeDepth := 16) only [argE_nil, argE_cons, ↓vmD, vmV, vmStd, Nat.reduceMul, ↓reduceIte, Nat.reduceAdd, Nat.reduceSub, Nat.reduceEqDiff, Nat.reduceLT, Nat.reduceLeDiff, reduceCtorEq, Int.reduceToNat, Int.reduceLT, Int.reduceLE, Int.reduceEq, Int.reduceNeg, Int.reduceBEq, Int.reduceBNe, String.reduceEq, forall_const, ↓vmDA, vmVA, ↓vmQA, vmR, vmRA, ↓vmSA, vmSV, tyS, nuE, SubA.skip, SubA.refl, fr.2, areDigits_v, panSum_v, rdigits_v, rsum_v, panLuhn_v, rLuhn_v, panCheck_v, rCheck_v, calIsDate_v, calDay_v, stLim_v, slIndexByte_v, indexByte_v, indexRune_v, containsRune_v, classOf_v, isWordByte_v, letter_v, digit_v, wordAt_v, rword_v, isName_v, risName_v, awk_v, hl1, bne_self_eq_false]
          refine CallA.go (waiting_h E1 sb LMB D1 hE1 OTH) (SubA.trans sE hQ1) (fun v D h => SubA.trans h.choose_spec.choose_spec.2.2.1.right h.choose_spec.choose_spec.2.2.2) ?_
          rintro v3 A3 Q2 ⟨v3', B3, rfl, ho3, dB3, hs3⟩ hA3 hQ2 _
          rw [waitL_other hI1 bank_oth] at ho3
          obtain ⟨q5, c5, rfl, _⟩ := ho3.slice
          intro ν6 fr6
          have fr := fr6
          have nuE := fr.nu
          simp (maxDischargeDepth := 16) only [argE_nil, argE_cons, ↓vmD, vmV, vmStd, Nat.reduceMul, ↓reduceIte, Nat.reduceAdd, Nat.reduceSub, Nat.reduceEqDiff, Nat.reduceLT, Nat.reduceLeDiff, reduceCtorEq, Int.reduceToNat, Int.reduceLT, Int.reduceLE, Int.reduceEq, Int.reduceNeg, Int.reduceBEq, Int.reduceBNe, String.reduceEq, forall_const, ↓vmDA, vmVA, ↓vmQA, vmR, vmRA, ↓vmSA, vmSV, tyS, nuE, SubA.skip, SubA.refl, fr.2, areDigits_v, panSum_v, rdigits_v, rsum_v, panLuhn_v, rLuhn_v, panCheck_v, rCheck_v, calIsDate_v, calDay_v, stLim_v, slIndexByte_v, indexByte_v, indexRune_v, containsRune_v, classOf_v, isWordByte_v, letter_v, digit_v, wordAt_v, rword_v, isName_v, risName_v, awk_v, List.length_nil]
          obtain ⟨g, G, hg, hG, hgle⟩ : ∃ (g : Nat) (G : List Dec), g = 0 ∧ G = (waitL BANK (D1.map Prod.snd)).drop g ∧ g ≤ (waitL BANK (D1.map Prod.snd)).length := ⟨0, _, rfl, rfl, by simp⟩
          rw [show (17, some (Value.int .i64 0)) = (17, some (Value.int .i64 (g : Int))) by rw [hg]; rfl]
          clear hg nuE fr fr5 fr6
          induction G generalizing g with
          | nil =>
            obtain ⟨gn1, gn2⟩ := drop_nil hG hgle
            have gl : ((g : Int) < ((waitL BANK (D1.map Prod.snd)).length : Int)) = False := eq_false (by omega)
            refine LoopA.intro (by kernel_rfl) ?_
            intro ν fr; have nuE := fr.nu
            simp (maxDischargeDepth := 16) only [argE_nil, argE_cons, ↓vmD, vmV, vmStd, Nat.reduceMul, ↓reduceIte, Nat.reduceAdd, Nat.reduceSub, Nat.reduceEqDiff, Nat.reduceLT, Nat.reduceLeDiff, reduceCtorEq, Int.reduceToNat, Int.reduceLT, Int.reduceLE, Int.reduceEq, Int.reduceNeg, Int.reduceBEq, Int.reduceBNe, String.reduceEq, forall_const, ↓vmDA, vmVA, ↓vmQA, vmR, vmRA, ↓vmSA, vmSV, tyS, nuE, SubA.skip, SubA.refl, fr.2, areDigits_v, panSum_v, rdigits_v, rsum_v, panLuhn_v, rLuhn_v, panCheck_v, rCheck_v, calIsDate_v, calDay_v, stLim_v, slIndexByte_v, indexByte_v, indexRune_v, containsRune_v, classOf_v, isWordByte_v, letter_v, digit_v, wordAt_v, rword_v, isName_v, risName_v, awk_v, gl, we]
            exact LoopA.weak (ih (e := e + 1) (D := D1) (E := E1) (B := B) (hd := hd') (hle := by omega) (hE := hE1) (hI := hI1) (ho := ho1) (sp := spT)) (by simp only [subE, get_cons, Nat.reduceEqDiff, ↓reduceIte, reduceCtorEq, Nat.reduceAdd, and_self, and_true, hl1]) (SubA.trans sT (SubA.trans hQ1 hQ2))
          | cons y G ihG =>
            obtain ⟨ga, gll, hG', _⟩ := drop_some hG
            have gl : ((g : Int) < ((waitL BANK (D1.map Prod.snd)).length : Int)) = True := eq_true (by omega)
            have wg : IntKind.i64.wrap ((g : Int) + 1) = ((g + 1 : Nat) : Int) := by rw [w_i64 (by omega) (by omega)]; omega
            obtain ⟨b1, o1, cs1, t1, r1, e1, k1', m1, _⟩ := st1'.at ga
            obtain ⟨b2, o2, cs2, t2, r2, e2, k2', m2, _⟩ := st2'.at ga
            subst e1 e2
            have k1'' := hQ2 _ _ k1'
            have k2'' := hQ2 _ _ k2'
            refine LoopA.intro (by kernel_rfl) ?_
            intro ν fr; have nuE := fr.nu
            simp (maxDischargeDepth := 16) only [argE_nil, argE_cons, ↓vmD, vmV, vmStd, Nat.reduceMul, ↓reduceIte, Nat.reduceAdd, Nat.reduceSub, Nat.reduceEqDiff, Nat.reduceLT, Nat.reduceLeDiff, reduceCtorEq, Int.reduceToNat, Int.reduceLT, Int.reduceLE, Int.reduceEq, Int.reduceNeg, Int.reduceBEq, Int.reduceBNe, String.reduceEq, forall_const, ↓vmDA, vmVA, ↓vmQA, vmR, vmRA, ↓vmSA, vmSV, tyS, nuE, SubA.skip, SubA.refl, fr.2, areDigits_v, panSum_v, rdigits_v, rsum_v, panLuhn_v, rLuhn_v, panCheck_v, rCheck_v, calIsDate_v, calDay_v, stLim_v, slIndexByte_v, indexByte_v, indexRune_v, containsRune_v, classOf_v, isWordByte_v, letter_v, digit_v, wordAt_v, rword_v, isName_v, risName_v, awk_v, hl1, gl, wg, k1'', k2'', m1, m2, advC, BEq.rfl, bne_self_eq_false]
            exact LoopA.weak (ihG (g + 1) hG' (by omega)) (by simp only [subE, get_cons, Nat.reduceEqDiff, ↓reduceIte, reduceCtorEq, Nat.reduceAdd, and_self, and_true]) (SubA.refl _)
        | true =>
          obtain ⟨h4, h5⟩ := h2 rfl
          subst h5
          simp (maxDischargeDepth := 16) only [argE_nil, argE_cons, ↓vmD, vmV, vmStd, Nat.reduceMul, ↓reduceIte, Nat.reduceAdd, Nat.reduceSub, Nat.reduceEqDiff, Nat.reduceLT, Nat.reduceLeDiff, reduceCtorEq, Int.reduceToNat, Int.reduceLT, Int.reduceLE, Int.reduceEq, Int.reduceNeg, Int.reduceBEq, Int.reduceBNe, String.reduceEq, forall_const, ↓vmDA, vmVA, ↓vmQA, vmR, vmRA, ↓vmSA, vmSV, tyS, nuE, SubA.skip, SubA.refl, fr.2, areDigits_v, panSum_v, rdigits_v, rsum_v, panLuhn_v, rLuhn_v, panCheck_v, rCheck_v, calIsDate_v, calDay_v, stLim_v, slIndexByte_v, indexByte_v, indexRune_v, containsRune_v, classOf_v, isWordByte_v, letter_v, digit_v, wordAt_v, rword_v, isName_v, risName_v, awk_v, lk1, h4]
          refine CallA.go (waiting_h E1 sb LMB D1 hE1 BANK) sE (fun v D h => SubA.trans h.choose_spec.choose_spec.2.2.1.right h.choose_spec.choose_spec.2.2.2) ?_
          rintro v2 A0 Q1 ⟨v2', B2, rfl, ho2, dB2, hs2⟩ hA1 hQ1 _
          obtain ⟨q2, c2, rfl, _, st2⟩ := ho2.read advC_len
          have st2' := st2.mono (SubA.trans (SubA.left B2 E1) (SubA.trans hs2 hA1))
          have st1' := st1.mono (SubA.trans (spT.subs [1] rfl : SubA B (cat [E1, B, A])) (SubA.trans sT hQ1))
          have hMl := waitL_len (D1.map Prod.snd) BANK
          obtain ⟨_, _, _, _, _, _, _, _, _, _, _, _, _, _, _, _, _, _, _, hu1, hamt1, hlen1, _⟩ := hE1.out
          intro ν5 fr5
          have fr := fr5
          have nuE := fr.nu
          simp (maxDischargeDepth := 16) only [argE_nil, argE_cons, ↓vmD, vmV, vmStd, Nat.reduceMul, ↓reduceIte, Nat.reduceAdd, Nat.reduceSub, Nat.reduceEqDiff, Nat.reduceLT, Nat.reduceLeDiff, reduceCtorEq, Int.reduceToNat, Int.reduceLT, Int.reduceLE, Int.reduceEq, Int.reduceNeg, Int.reduceBEq, Int.reduceBNe, String.reduceEq, forall_const, ↓vmDA, vmVA, ↓vmQA, vmR, vmRA, ↓vmSA, vmSV, tyS, nuE, SubA.skip, SubA.refl, fr.2, areDigits_v, panSum_v, rdigits_v, rsum_v, panLuhn_v, rLuhn_v, panCheck_v, rCheck_v, calIsDate_v, calDay_v, stLim_v, slIndexByte_v, indexByte_v, indexRune_v, containsRune_v, classOf_v, isWordByte_v, letter_v, digit_v, wordAt_v, rword_v, isName_v, risName_v, awk_v, hl1, bne_self_eq_false]
          refine CallA.go (waiting_h E1 sb LMB D1 hE1 OTH) (SubA.trans sE hQ1) (fun v D h => SubA.trans h.choose_spec.choose_spec.2.2.1.right h.choose_spec.choose_spec.2.2.2) ?_
          rintro v3 A3 Q2 ⟨v3', B3, rfl, ho3, dB3, hs3⟩ hA3 hQ2 _
          rw [waitL_other hI1 bank_oth] at ho3
          obtain ⟨q5, c5, rfl, _⟩ := ho3.slice
          intro ν6 fr6
          have fr := fr6
          have nuE := fr.nu
          simp (maxDischargeDepth := 16) only [argE_nil, argE_cons, ↓vmD, vmV, vmStd, Nat.reduceMul, ↓reduceIte, Nat.reduceAdd, Nat.reduceSub, Nat.reduceEqDiff, Nat.reduceLT, Nat.reduceLeDiff, reduceCtorEq, Int.reduceToNat, Int.reduceLT, Int.reduceLE, Int.reduceEq, Int.reduceNeg, Int.reduceBEq, Int.reduceBNe, String.reduceEq, forall_const, ↓vmDA, vmVA, ↓vmQA, vmR, vmRA, ↓vmSA, vmSV, tyS, nuE, SubA.skip, SubA.refl, fr.2, areDigits_v, panSum_v, rdigits_v, rsum_v, panLuhn_v, rLuhn_v, panCheck_v, rCheck_v, calIsDate_v, calDay_v, stLim_v, slIndexByte_v, indexByte_v, indexRune_v, containsRune_v, classOf_v, isWordByte_v, letter_v, digit_v, wordAt_v, rword_v, isName_v, risName_v, awk_v, List.length_nil]
          obtain ⟨g, G, hg, hG, hgle⟩ : ∃ (g : Nat) (G : List Dec), g = 0 ∧ G = (waitL BANK (D1.map Prod.snd)).drop g ∧ g ≤ (waitL BANK (D1.map Prod.snd)).length := ⟨0, _, rfl, rfl, by simp⟩
          rw [show (17, some (Value.int .i64 0)) = (17, some (Value.int .i64 (g : Int))) by rw [hg]; rfl]
          clear hg nuE fr fr5 fr6
          induction G generalizing g with
          | nil =>
            obtain ⟨gn1, gn2⟩ := drop_nil hG hgle
            have gl : ((g : Int) < ((waitL BANK (D1.map Prod.snd)).length : Int)) = False := eq_false (by omega)
            refine LoopA.intro (by kernel_rfl) ?_
            intro ν fr; have nuE := fr.nu
            simp (maxDischargeDepth := 16) only [argE_nil, argE_cons, ↓vmD, vmV, vmStd, Nat.reduceMul, ↓reduceIte, Nat.reduceAdd, Nat.reduceSub, Nat.reduceEqDiff, Nat.reduceLT, Nat.reduceLeDiff, reduceCtorEq, Int.reduceToNat, Int.reduceLT, Int.reduceLE, Int.reduceEq, Int.reduceNeg, Int.reduceBEq, Int.reduceBNe, String.reduceEq, forall_const, ↓vmDA, vmVA, ↓vmQA, vmR, vmRA, ↓vmSA, vmSV, tyS, nuE, SubA.skip, SubA.refl, fr.2, areDigits_v, panSum_v, rdigits_v, rsum_v, panLuhn_v, rLuhn_v, panCheck_v, rCheck_v, calIsDate_v, calDay_v, stLim_v, slIndexByte_v, indexByte_v, indexRune_v, containsRune_v, classOf_v, isWordByte_v, letter_v, digit_v, wordAt_v, rword_v, isName_v, risName_v, awk_v, gl, we]
            exact LoopA.weak (ih (e := e + 1) (D := D1) (E := E1) (B := B) (hd := hd') (hle := by omega) (hE := hE1) (hI := hI1) (ho := ho1) (sp := spT)) (by simp only [subE, get_cons, Nat.reduceEqDiff, ↓reduceIte, reduceCtorEq, Nat.reduceAdd, and_self, and_true, hl1]) (SubA.trans sT (SubA.trans hQ1 hQ2))
          | cons y G ihG =>
            obtain ⟨ga, gll, hG', _⟩ := drop_some hG
            have gl : ((g : Int) < ((waitL BANK (D1.map Prod.snd)).length : Int)) = True := eq_true (by omega)
            have wg : IntKind.i64.wrap ((g : Int) + 1) = ((g + 1 : Nat) : Int) := by rw [w_i64 (by omega) (by omega)]; omega
            obtain ⟨b1, o1, cs1, t1, r1, e1, k1', m1, _⟩ := st1'.at ga
            obtain ⟨b2, o2, cs2, t2, r2, e2, k2', m2, _⟩ := st2'.at ga
            subst e1 e2
            have k1'' := hQ2 _ _ k1'
            have k2'' := hQ2 _ _ k2'
            refine LoopA.intro (by kernel_rfl) ?_
            intro ν fr; have nuE := fr.nu
            simp (maxDischargeDepth := 16) only [argE_nil, argE_cons, ↓vmD, vmV, vmStd, Nat.reduceMul, ↓reduceIte, Nat.reduceAdd, Nat.reduceSub, Nat.reduceEqDiff, Nat.reduceLT, Nat.reduceLeDiff, reduceCtorEq, Int.reduceToNat, Int.reduceLT, Int.reduceLE, Int.reduceEq, Int.reduceNeg, Int.reduceBEq, Int.reduceBNe, String.reduceEq, forall_const, ↓vmDA, vmVA, ↓vmQA, vmR, vmRA, ↓vmSA, vmSV, tyS, nuE, SubA.skip, SubA.refl, fr.2, areDigits_v, panSum_v, rdigits_v, rsum_v, panLuhn_v, rLuhn_v, panCheck_v, rCheck_v, calIsDate_v, calDay_v, stLim_v, slIndexByte_v, indexByte_v, indexRune_v, containsRune_v, classOf_v, isWordByte_v, letter_v, digit_v, wordAt_v, rword_v, isName_v, risName_v, awk_v, hl1, gl, wg, k1'', k2'', m1, m2, advC, BEq.rfl, bne_self_eq_false]
            exact LoopA.weak (ihG (g + 1) hG' (by omega)) (by simp only [subE, get_cons, Nat.reduceEqDiff, ↓reduceIte, reduceCtorEq, Nat.reduceAdd, and_self, and_true]) (SubA.refl _)
      · subst h2
        have h4 : (posD x.key (D.map Prod.snd)).isSome = false := by rw [h1]; rfl
        rw [h3] at hD1
        have hI1 : ∀ d ∈ D1.map Prod.snd, d.iss = BANK := by
          rw [hD1]
          intro c hc
          rcases List.mem_append.1 hc with h | h
          · exact hI c h
          · simp at h; rw [h, k2]
        cases ok with
        | false =>
          have hw1 : waitL BANK (D1.map Prod.snd) = waitL BANK (D.map Prod.snd) := by rw [hD1]; unfold waitL; rw [List.filter_append]; simp [k6]
          have ho1 : OwnL advC 5 64 (.slice q1 (waitL BANK (D.map Prod.snd)).length c1) B (waitL BANK (D1.map Prod.snd)) := by rw [hw1]; exact ho
          have hl1 : (waitL BANK (D.map Prod.snd)).length = (waitL BANK (D1.map Prod.snd)).length := by rw [hw1]
          rw [← hw1] at st1
          simp (maxDischargeDepth := 16) only [argE_nil, argE_cons, ↓vmD, vmV, vmStd, Nat.reduceMul, ↓reduceIte, Nat.reduceAdd, Nat.reduceSub, Nat.reduceEqDiff, Nat.reduceLT, Nat.reduceLeDiff, reduceCtorEq, Int.reduceToNat, Int.reduceLT, Int.reduceLE, Int.reduceEq, Int.reduceNeg, Int.reduceBEq, Int.reduceBNe, String.reduceEq, forall_const, ↓vmDA, vmVA, ↓vmQA, vmR, vmRA, ↓vmSA, vmSV, tyS, nuE, SubA.skip, SubA.refl, fr.2, areDigits_v, panSum_v, rdigits_v, rsum_v, panLuhn_v, rLuhn_v, panCheck_v, rCheck_v, calIsDate_v, calDay_v, stLim_v, slIndexByte_v, indexByte_v, indexRune_v, containsRune_v, classOf_v, isWordByte_v, letter_v, digit_v, wordAt_v, rword_v, isName_v, risName_v, awk_v, lk1, h4]
          refine CallA.go (waiting_h E1 sb LMB D1 hE1 BANK) sE (fun v D h => SubA.trans h.choose_spec.choose_spec.2.2.1.right h.choose_spec.choose_spec.2.2.2) ?_
          rintro v2 A0 Q1 ⟨v2', B2, rfl, ho2, dB2, hs2⟩ hA1 hQ1 _
          obtain ⟨q2, c2, rfl, _, st2⟩ := ho2.read advC_len
          have st2' := st2.mono (SubA.trans (SubA.left B2 E1) (SubA.trans hs2 hA1))
          have st1' := st1.mono (SubA.trans (spT.subs [1] rfl : SubA B (cat [E1, B, A])) (SubA.trans sT hQ1))
          have hMl := waitL_len (D1.map Prod.snd) BANK
          obtain ⟨_, _, _, _, _, _, _, _, _, _, _, _, _, _, _, _, _, _, _, hu1, hamt1, hlen1, _⟩ := hE1.out
          intro ν5 fr5
          have fr := fr5
          have nuE := fr.nu
          simp (maxDischargeDepth := 16) only [argE_nil, argE_cons, ↓vmD, vmV, vmStd, Nat.reduceMul, ↓reduceIte, Nat.reduceAdd, Nat.reduceSub, Nat.reduceEqDiff, Nat.reduceLT, Nat.reduceLeDiff, reduceCtorEq, Int.reduceToNat, Int.reduceLT, Int.reduceLE, Int.reduceEq, Int.reduceNeg, Int.reduceBEq, Int.reduceBNe, String.reduceEq, forall_const, ↓vmDA, vmVA, ↓vmQA, vmR, vmRA, ↓vmSA, vmSV, tyS, nuE, SubA.skip, SubA.refl, fr.2, areDigits_v, panSum_v, rdigits_v, rsum_v, panLuhn_v, rLuhn_v, panCheck_v, rCheck_v, calIsDate_v, calDay_v, stLim_v, slIndexByte_v, indexByte_v, indexRune_v, containsRune_v, classOf_v, isWordByte_v, letter_v, digit_v, wordAt_v, rword_v, isName_v, risName_v, awk_v, hl1, bne_self_eq_false]
          refine CallA.go (waiting_h E1 sb LMB D1 hE1 OTH) (SubA.trans sE hQ1) (fun v D h => SubA.trans h.choose_spec.choose_spec.2.2.1.right h.choose_spec.choose_spec.2.2.2) ?_
          rintro v3 A3 Q2 ⟨v3', B3, rfl, ho3, dB3, hs3⟩ hA3 hQ2 _
          rw [waitL_other hI1 bank_oth] at ho3
          obtain ⟨q5, c5, rfl, _⟩ := ho3.slice
          intro ν6 fr6
          have fr := fr6
          have nuE := fr.nu
          simp (maxDischargeDepth := 16) only [argE_nil, argE_cons, ↓vmD, vmV, vmStd, Nat.reduceMul, ↓reduceIte, Nat.reduceAdd, Nat.reduceSub, Nat.reduceEqDiff, Nat.reduceLT, Nat.reduceLeDiff, reduceCtorEq, Int.reduceToNat, Int.reduceLT, Int.reduceLE, Int.reduceEq, Int.reduceNeg, Int.reduceBEq, Int.reduceBNe, String.reduceEq, forall_const, ↓vmDA, vmVA, ↓vmQA, vmR, vmRA, ↓vmSA, vmSV, tyS, nuE, SubA.skip, SubA.refl, fr.2, areDigits_v, panSum_v, rdigits_v, rsum_v, panLuhn_v, rLuhn_v, panCheck_v, rCheck_v, calIsDate_v, calDay_v, stLim_v, slIndexByte_v, indexByte_v, indexRune_v, containsRune_v, classOf_v, isWordByte_v, letter_v, digit_v, wordAt_v, rword_v, isName_v, risName_v, awk_v, List.length_nil]
          obtain ⟨g, G, hg, hG, hgle⟩ : ∃ (g : Nat) (G : List Dec), g = 0 ∧ G = (waitL BANK (D1.map Prod.snd)).drop g ∧ g ≤ (waitL BANK (D1.map Prod.snd)).length := ⟨0, _, rfl, rfl, by simp⟩
          rw [show (17, some (Value.int .i64 0)) = (17, some (Value.int .i64 (g : Int))) by rw [hg]; rfl]
          clear hg nuE fr fr5 fr6
          induction G generalizing g with
          | nil =>
            obtain ⟨gn1, gn2⟩ := drop_nil hG hgle
            have gl : ((g : Int) < ((waitL BANK (D1.map Prod.snd)).length : Int)) = False := eq_false (by omega)
            refine LoopA.intro (by kernel_rfl) ?_
            intro ν fr; have nuE := fr.nu
            simp (maxDischargeDepth := 16) only [argE_nil, argE_cons, ↓vmD, vmV, vmStd, Nat.reduceMul, ↓reduceIte, Nat.reduceAdd, Nat.reduceSub, Nat.reduceEqDiff, Nat.reduceLT, Nat.reduceLeDiff, reduceCtorEq, Int.reduceToNat, Int.reduceLT, Int.reduceLE, Int.reduceEq, Int.reduceNeg, Int.reduceBEq, Int.reduceBNe, String.reduceEq, forall_const, ↓vmDA, vmVA, ↓vmQA, vmR, vmRA, ↓vmSA, vmSV, tyS, nuE, SubA.skip, SubA.refl, fr.2, areDigits_v, panSum_v, rdigits_v, rsum_v, panLuhn_v, rLuhn_v, panCheck_v, rCheck_v, calIsDate_v, calDay_v, stLim_v, slIndexByte_v, indexByte_v, indexRune_v, containsRune_v, classOf_v, isWordByte_v, letter_v, digit_v, wordAt_v, rword_v, isName_v, risName_v, awk_v, gl, we]
            exact LoopA.weak (ih (e := e + 1) (D := D1) (E := E1) (B := B) (hd := hd') (hle := by omega) (hE := hE1) (hI := hI1) (ho := ho1) (sp := spT)) (by simp only [subE, get_cons, Nat.reduceEqDiff, ↓reduceIte, reduceCtorEq, Nat.reduceAdd, and_self, and_true, hl1]) (SubA.trans sT (SubA.trans hQ1 hQ2))
          | cons y G ihG =>
            obtain ⟨ga, gll, hG', _⟩ := drop_some hG
            have gl : ((g : Int) < ((waitL BANK (D1.map Prod.snd)).length : Int)) = True := eq_true (by omega)
            have wg : IntKind.i64.wrap ((g : Int) + 1) = ((g + 1 : Nat) : Int) := by rw [w_i64 (by omega) (by omega)]; omega
            obtain ⟨b1, o1, cs1, t1, r1, e1, k1', m1, _⟩ := st1'.at ga
            obtain ⟨b2, o2, cs2, t2, r2, e2, k2', m2, _⟩ := st2'.at ga
            subst e1 e2
            have k1'' := hQ2 _ _ k1'
            have k2'' := hQ2 _ _ k2'
            refine LoopA.intro (by kernel_rfl) ?_
            intro ν fr; have nuE := fr.nu
            simp (maxDischargeDepth := 16) only [argE_nil, argE_cons, ↓vmD, vmV, vmStd, Nat.reduceMul, ↓reduceIte, Nat.reduceAdd, Nat.reduceSub, Nat.reduceEqDiff, Nat.reduceLT, Nat.reduceLeDiff, reduceCtorEq, Int.reduceToNat, Int.reduceLT, Int.reduceLE, Int.reduceEq, Int.reduceNeg, Int.reduceBEq, Int.reduceBNe, String.reduceEq, forall_const, ↓vmDA, vmVA, ↓vmQA, vmR, vmRA, ↓vmSA, vmSV, tyS, nuE, SubA.skip, SubA.refl, fr.2, areDigits_v, panSum_v, rdigits_v, rsum_v, panLuhn_v, rLuhn_v, panCheck_v, rCheck_v, calIsDate_v, calDay_v, stLim_v, slIndexByte_v, indexByte_v, indexRune_v, containsRune_v, classOf_v, isWordByte_v, letter_v, digit_v, wordAt_v, rword_v, isName_v, risName_v, awk_v, hl1, gl, wg, k1'', k2'', m1, m2, advC, BEq.rfl, bne_self_eq_false]
            exact LoopA.weak (ihG (g + 1) hG' (by omega)) (by simp only [subE, get_cons, Nat.reduceEqDiff, ↓reduceIte, reduceCtorEq, Nat.reduceAdd, and_self, and_true]) (SubA.refl _)
        | true =>
          have hw1 : waitL BANK (D1.map Prod.snd) = waitL BANK (D.map Prod.snd) ++ [d] := by rw [hD1]; unfold waitL; rw [List.filter_append]; simp [k6, k2]
          simp (maxDischargeDepth := 16) only [argE_nil, argE_cons, ↓vmD, vmV, vmStd, Nat.reduceMul, ↓reduceIte, Nat.reduceAdd, Nat.reduceSub, Nat.reduceEqDiff, Nat.reduceLT, Nat.reduceLeDiff, reduceCtorEq, Int.reduceToNat, Int.reduceLT, Int.reduceLE, Int.reduceEq, Int.reduceNeg, Int.reduceBEq, Int.reduceBNe, String.reduceEq, forall_const, ↓vmDA, vmVA, ↓vmQA, vmR, vmRA, ↓vmSA, vmSV, tyS, nuE, SubA.skip, SubA.refl, fr.2, areDigits_v, panSum_v, rdigits_v, rsum_v, panLuhn_v, rLuhn_v, panCheck_v, rCheck_v, calIsDate_v, calDay_v, stLim_v, slIndexByte_v, indexByte_v, indexRune_v, containsRune_v, classOf_v, isWordByte_v, letter_v, digit_v, wordAt_v, rword_v, isName_v, risName_v, awk_v, lk1, h4, sc_adv]
          have n0' := fr.2 0
          have hX : SubA (cat [E1, A]) ((ν1 0, Obj.cells #[.string (bs x.key), .string ⟨#[98, 97, 110, 107]⟩, .string ⟨#[52, 48, 48, 48, 48, 48, 48, 48, 48, 48, 48, 48, 48, 48, 55, 55]⟩, .int .i64 x.amt, .int .i64 (e : Int)] 64) :: (E1 ++ cat [[(n, (Obj.cells #[.int .i64 x.kind, .int .i64 x.at_, .string (bs x.key), .string (bs x.iss), .string (bs x.card), .int .i64 x.amt] 36))], B, A])) := SubA.fresh n0' (sp1.subs [0, 3] rfl)
          have hB1 : SubA B ((ν1 0, Obj.cells #[.string (bs x.key), .string ⟨#[98, 97, 110, 107]⟩, .string ⟨#[52, 48, 48, 48, 48, 48, 48, 48, 48, 48, 48, 48, 48, 48, 55, 55]⟩, .int .i64 x.amt, .int .i64 (e : Int)] 64) :: (E1 ++ cat [[(n, (Obj.cells #[.int .i64 x.kind, .int .i64 x.at_, .string (bs x.key), .string (bs x.iss), .string (bs x.card), .int .i64 x.amt] 36))], B, A])) := SubA.fresh n0' (sp1.subs [2] rfl)
          refine RunA.use ?_
          refine append_src (m := 1) (news := [.string (bs x.key), .string ⟨#[98, 97, 110, 107]⟩, .string ⟨#[52, 48, 48, 48, 48, 48, 48, 48, 48, 48, 48, 48, 48, 48, 55, 55]⟩, .int .i64 x.amt, .int .i64 (e : Int)]) (B := B) slc45 zro64 rfl (by decide) ho hB1 (.inr ⟨ν1 0, 0, rfl, by simp (maxDischargeDepth := 16) only [argE_nil, argE_cons, ↓vmD, vmV, vmStd, Nat.reduceMul, ↓reduceIte, Nat.reduceAdd, Nat.reduceSub, Nat.reduceEqDiff, Nat.reduceLT, Nat.reduceLeDiff, reduceCtorEq, Int.reduceToNat, Int.reduceLT, Int.reduceLE, Int.reduceEq, Int.reduceNeg, Int.reduceBEq, Int.reduceBNe, String.reduceEq, forall_const, ↓vmDA, vmVA, ↓vmQA, vmR, vmRA, ↓vmSA, vmSV, tyS, nuE, SubA.skip, SubA.refl, fr.2, areDigits_v, panSum_v, rdigits_v, rsum_v, panLuhn_v, rLuhn_v, panCheck_v, rCheck_v, calIsDate_v, calDay_v, stLim_v, slIndexByte_v, indexByte_v, indexRune_v, containsRune_v, classOf_v, isWordByte_v, letter_v, digit_v, wordAt_v, rword_v, isName_v, risName_v, awk_v]⟩) (by simp [Value.oneCell']) (by simp only [maxLen]; omega) (by omega) ?_
          intro v' B' ho' hb'
          have dB' : Dis B' (cat [E1, A]) := ap_dis hb' (sp1.pick [2, 0, 3] rfl rfl).dis hX
          have spN := Sep.cons dB' (sp1.pick [0, 3] rfl rfl)
          have ho1 : OwnL advC 5 64 v' B' (waitL BANK (D1.map Prod.snd)) := by
            rw [hw1]
            exact app_adv (by unfold advC; rw [k1, k2, k3, k4, k5]; rfl) ho'
          obtain ⟨q3, c3, rfl, _, st3⟩ := ho1.read advC_len
          refine ⟨cat [E1, B', A], SubA.trans (spN.subs [1, 0, 2] rfl) (SubA.app hX), ?_⟩
          have spT : Sep [E1, B', A] := spN.pick [1, 0, 2] rfl rfl
          have sE : SubA E1 (cat [E1, B', A]) := spT.subs [0] rfl
          have sT : SubA (cat [E1, B', A]) (cat [E1, B', A]) := SubA.refl _
          intro ν2 fr2
          have fr := fr2
          have nuE := fr.nu
          simp (maxDischargeDepth := 16) only [argE_nil, argE_cons, ↓vmD, vmV, vmStd, Nat.reduceMul, ↓reduceIte, Nat.reduceAdd, Nat.reduceSub, Nat.reduceEqDiff, Nat.reduceLT, Nat.reduceLeDiff, reduceCtorEq, Int.reduceToNat, Int.reduceLT, Int.reduceLE, Int.reduceEq, Int.reduceNeg, Int.reduceBEq, Int.reduceBNe, String.reduceEq, forall_const, ↓vmDA, vmVA, ↓vmQA, vmR, vmRA, ↓vmSA, vmSV, tyS, nuE, SubA.skip, SubA.refl, fr.2, areDigits_v, panSum_v, rdigits_v, rsum_v, panLuhn_v, rLuhn_v, panCheck_v, rCheck_v, calIsDate_v, calDay_v, stLim_v, slIndexByte_v, indexByte_v, indexRune_v, containsRune_v, classOf_v, isWordByte_v, letter_v, digit_v, wordAt_v, rword_v, isName_v, risName_v, awk_v]
          refine CallA.go (waiting_h E1 sb LMB D1 hE1 BANK) sE (fun v D h => SubA.trans h.choose_spec.choose_spec.2.2.1.right h.choose_spec.choose_spec.2.2.2) ?_
          rintro v2 A0 Q1 ⟨v2', B2, rfl, ho2, dB2, hs2⟩ hA1 hQ1 _
          obtain ⟨q2, c2, rfl, _, st2⟩ := ho2.read advC_len
          have st2' := st2.mono (SubA.trans (SubA.left B2 E1) (SubA.trans hs2 hA1))
          have st1' := st3.mono (SubA.trans (spT.subs [1] rfl : SubA B' (cat [E1, B', A])) (SubA.trans sT hQ1))
          have hMl := waitL_len (D1.map Prod.snd) BANK
          obtain ⟨_, _, _, _, _, _, _, _, _, _, _, _, _, _, _, _, _, _, _, hu1, hamt1, hlen1, _⟩ := hE1.out
          intro ν5 fr5
          have fr := fr5
          have nuE := fr.nu
          simp (maxDischargeDepth := 16) only [argE_nil, argE_cons, ↓vmD, vmV, vmStd, Nat.reduceMul, ↓reduceIte, Nat.reduceAdd, Nat.reduceSub, Nat.reduceEqDiff, Nat.reduceLT, Nat.reduceLeDiff, reduceCtorEq, Int.reduceToNat, Int.reduceLT, Int.reduceLE, Int.reduceEq, Int.reduceNeg, Int.reduceBEq, Int.reduceBNe, String.reduceEq, forall_const, ↓vmDA, vmVA, ↓vmQA, vmR, vmRA, ↓vmSA, vmSV, tyS, nuE, SubA.skip, SubA.refl, fr.2, areDigits_v, panSum_v, rdigits_v, rsum_v, panLuhn_v, rLuhn_v, panCheck_v, rCheck_v, calIsDate_v, calDay_v, stLim_v, slIndexByte_v, indexByte_v, indexRune_v, containsRune_v, classOf_v, isWordByte_v, letter_v, digit_v, wordAt_v, rword_v, isName_v, risName_v, awk_v, bne_self_eq_false]
          refine CallA.go (waiting_h E1 sb LMB D1 hE1 OTH) (SubA.trans sE hQ1) (fun v D h => SubA.trans h.choose_spec.choose_spec.2.2.1.right h.choose_spec.choose_spec.2.2.2) ?_
          rintro v3 A3 Q2 ⟨v3', B3, rfl, ho3, dB3, hs3⟩ hA3 hQ2 _
          rw [waitL_other hI1 bank_oth] at ho3
          obtain ⟨q5, c5, rfl, _⟩ := ho3.slice
          intro ν6 fr6
          have fr := fr6
          have nuE := fr.nu
          simp (maxDischargeDepth := 16) only [argE_nil, argE_cons, ↓vmD, vmV, vmStd, Nat.reduceMul, ↓reduceIte, Nat.reduceAdd, Nat.reduceSub, Nat.reduceEqDiff, Nat.reduceLT, Nat.reduceLeDiff, reduceCtorEq, Int.reduceToNat, Int.reduceLT, Int.reduceLE, Int.reduceEq, Int.reduceNeg, Int.reduceBEq, Int.reduceBNe, String.reduceEq, forall_const, ↓vmDA, vmVA, ↓vmQA, vmR, vmRA, ↓vmSA, vmSV, tyS, nuE, SubA.skip, SubA.refl, fr.2, areDigits_v, panSum_v, rdigits_v, rsum_v, panLuhn_v, rLuhn_v, panCheck_v, rCheck_v, calIsDate_v, calDay_v, stLim_v, slIndexByte_v, indexByte_v, indexRune_v, containsRune_v, classOf_v, isWordByte_v, letter_v, digit_v, wordAt_v, rword_v, isName_v, risName_v, awk_v, List.length_nil]
          obtain ⟨g, G, hg, hG, hgle⟩ : ∃ (g : Nat) (G : List Dec), g = 0 ∧ G = (waitL BANK (D1.map Prod.snd)).drop g ∧ g ≤ (waitL BANK (D1.map Prod.snd)).length := ⟨0, _, rfl, rfl, by simp⟩
          rw [show (17, some (Value.int .i64 0)) = (17, some (Value.int .i64 (g : Int))) by rw [hg]; rfl]
          clear hg nuE fr fr5 fr6
          induction G generalizing g with
          | nil =>
            obtain ⟨gn1, gn2⟩ := drop_nil hG hgle
            have gl : ((g : Int) < ((waitL BANK (D1.map Prod.snd)).length : Int)) = False := eq_false (by omega)
            refine LoopA.intro (by kernel_rfl) ?_
            intro ν fr; have nuE := fr.nu
            simp (maxDischargeDepth := 16) only [argE_nil, argE_cons, ↓vmD, vmV, vmStd, Nat.reduceMul, ↓reduceIte, Nat.reduceAdd, Nat.reduceSub, Nat.reduceEqDiff, Nat.reduceLT, Nat.reduceLeDiff, reduceCtorEq, Int.reduceToNat, Int.reduceLT, Int.reduceLE, Int.reduceEq, Int.reduceNeg, Int.reduceBEq, Int.reduceBNe, String.reduceEq, forall_const, ↓vmDA, vmVA, ↓vmQA, vmR, vmRA, ↓vmSA, vmSV, tyS, nuE, SubA.skip, SubA.refl, fr.2, areDigits_v, panSum_v, rdigits_v, rsum_v, panLuhn_v, rLuhn_v, panCheck_v, rCheck_v, calIsDate_v, calDay_v, stLim_v, slIndexByte_v, indexByte_v, indexRune_v, containsRune_v, classOf_v, isWordByte_v, letter_v, digit_v, wordAt_v, rword_v, isName_v, risName_v, awk_v, gl, we]
            exact LoopA.weak (ih (e := e + 1) (D := D1) (E := E1) (B := B') (hd := hd') (hle := by omega) (hE := hE1) (hI := hI1) (ho := ho1) (sp := spT)) (by simp only [subE, get_cons, Nat.reduceEqDiff, ↓reduceIte, reduceCtorEq, Nat.reduceAdd, and_self, and_true]) (SubA.trans sT (SubA.trans hQ1 hQ2))
          | cons y G ihG =>
            obtain ⟨ga, gll, hG', _⟩ := drop_some hG
            have gl : ((g : Int) < ((waitL BANK (D1.map Prod.snd)).length : Int)) = True := eq_true (by omega)
            have wg : IntKind.i64.wrap ((g : Int) + 1) = ((g + 1 : Nat) : Int) := by rw [w_i64 (by omega) (by omega)]; omega
            obtain ⟨b1, o1, cs1, t1, r1, e1, k1', m1, _⟩ := st1'.at ga
            obtain ⟨b2, o2, cs2, t2, r2, e2, k2', m2, _⟩ := st2'.at ga
            subst e1 e2
            have k1'' := hQ2 _ _ k1'
            have k2'' := hQ2 _ _ k2'
            refine LoopA.intro (by kernel_rfl) ?_
            intro ν fr; have nuE := fr.nu
            simp (maxDischargeDepth := 16) only [argE_nil, argE_cons, ↓vmD, vmV, vmStd, Nat.reduceMul, ↓reduceIte, Nat.reduceAdd, Nat.reduceSub, Nat.reduceEqDiff, Nat.reduceLT, Nat.reduceLeDiff, reduceCtorEq, Int.reduceToNat, Int.reduceLT, Int.reduceLE, Int.reduceEq, Int.reduceNeg, Int.reduceBEq, Int.reduceBNe, String.reduceEq, forall_const, ↓vmDA, vmVA, ↓vmQA, vmR, vmRA, ↓vmSA, vmSV, tyS, nuE, SubA.skip, SubA.refl, fr.2, areDigits_v, panSum_v, rdigits_v, rsum_v, panLuhn_v, rLuhn_v, panCheck_v, rCheck_v, calIsDate_v, calDay_v, stLim_v, slIndexByte_v, indexByte_v, indexRune_v, containsRune_v, classOf_v, isWordByte_v, letter_v, digit_v, wordAt_v, rword_v, isName_v, risName_v, awk_v, gl, wg, k1'', k2'', m1, m2, advC, BEq.rfl, bne_self_eq_false]
            exact LoopA.weak (ihG (g + 1) hG' (by omega)) (by simp only [subE, get_cons, Nat.reduceEqDiff, ↓reduceIte, reduceCtorEq, Nat.reduceAdd, and_self, and_true]) (SubA.refl _)
    · have hk0f := eq_false hk0
      simp (maxDischargeDepth := 16) only [argE_nil, argE_cons, ↓vmD, vmV, vmStd, Nat.reduceMul, ↓reduceIte, Nat.reduceAdd, Nat.reduceSub, Nat.reduceEqDiff, Nat.reduceLT, Nat.reduceLeDiff, reduceCtorEq, Int.reduceToNat, Int.reduceLT, Int.reduceLE, Int.reduceEq, Int.reduceNeg, Int.reduceBEq, Int.reduceBNe, String.reduceEq, forall_const, ↓vmDA, vmVA, ↓vmQA, vmR, vmRA, ↓vmSA, vmSV, tyS, nuE, SubA.skip, SubA.refl, fr.2, areDigits_v, panSum_v, rdigits_v, rsum_v, panLuhn_v, rLuhn_v, panCheck_v, rCheck_v, calIsDate_v, calDay_v, stLim_v, slIndexByte_v, indexByte_v, indexRune_v, containsRune_v, classOf_v, isWordByte_v, letter_v, digit_v, wordAt_v, rword_v, isName_v, risName_v, awk_v, lt, lbk, hcr, opC, hk0f]
      generalize ν 0 = n at *
      obtain ⟨k, N, wv, vr, Br, hk, hwv, hvr, hBr, hN, hkle, hwa2, hor, spr⟩ : ∃ (k : Nat) (N : List Dec) (wv : Bool) (vr : Value) (Br : AH), k = 0 ∧ wv = false ∧ vr = .slice none 0 0 ∧ Br = [] ∧ N = (waitL BANK (D.map Prod.snd)).drop k ∧ k ≤ (waitL BANK (D.map Prod.snd)).length ∧ wv = ((waitL BANK (D.map Prod.snd)).take k).any (fun d => decide (d.key = x.key)) ∧ OwnL advC 5 64 vr Br (((waitL BANK (D.map Prod.snd)).take k).filter (fun d => !decide (d.key = x.key))) ∧ Sep [Br, [(n, (Obj.cells #[.int .i64 x.kind, .int .i64 x.at_, .string (bs x.key), .string (bs x.iss), .string (bs x.card), .int .i64 x.amt] 36))], E, B, A] :=
        ⟨0, _, false, _, [], rfl, rfl, rfl, rfl, rfl, by simp, rfl, OwnL.nil _ _ _, Sep.cons (Dis.nil _) sp0⟩
      rw [show (14, some (Value.int .i64 0)) = (14, some (Value.int .i64 (k : Int))) by rw [hk]; rfl]
      rw [show (13, some (Value.slice none 0 0)) = (13, some vr) by rw [hvr]]
      rw [show (12, some (Value.bool false)) = (12, some (Value.bool wv)) by rw [hwv]]
      refine LoopA.at (A := cat [Br, [(n, (Obj.cells #[.int .i64 x.kind, .int .i64 x.at_, .string (bs x.key), .string (bs x.iss), .string (bs x.card), .int .i64 x.amt] 36))], E, B, A]) (by rw [hBr]; exact SubA.refl _) ?_
      clear hk hwv hvr hBr nuE fr
      induction N generalizing k wv vr Br with
      | cons t N ihN =>
        obtain ⟨hta, htl, hN', htk2⟩ := drop_some hN
        have kl : ((k : Int) < ((waitL BANK (D.map Prod.snd)).length : Int)) = True := eq_true (by omega)
        have wk : IntKind.i64.wrap ((k : Int) + 1) = ((k + 1 : Nat) : Int) := by rw [w_i64 (by omega) (by omega)]; omega
        obtain ⟨bm, om, csm, tym, frm, hpm, hbm, hcm, hccm⟩ := st1.at hta
        subst hpm
        have lbm := spr.sub B (by simp) _ _ hbm
        have cm0 : csm[om + k * 5]? = some (.string (bs t.key)) := hccm 0 _ rfl
        have ln : Vm.look (cat [Br, [(n, (Obj.cells #[.int .i64 x.kind, .int .i64 x.at_, .string (bs x.key), .string (bs x.iss), .string (bs x.card), .int .i64 x.amt] 36))], E, B, A]) n = some (Obj.cells #[.int .i64 x.kind, .int .i64 x.at_, .string (bs x.key), .string (bs x.iss), .string (bs x.card), .int .i64 x.amt] 36) := spr.sub [(n, (Obj.cells #[.int .i64 x.kind, .int .i64 x.at_, .string (bs x.key), .string (bs x.iss), .string (bs x.card), .int .i64 x.amt] 36))] (by simp) _ _ (by simp [Vm.look])
        have t1 : ((bs t.key).toList = (bs x.key).toList) = (t.key = x.key) := by rw [bs_list, bs_list]
        refine LoopA.intro (by kernel_rfl) ?_
        intro ν fr; have nuE := fr.nu
        by_cases hkk : t.key = x.key
        · have hkt := eq_true hkk
          simp (maxDischargeDepth := 16) only [argE_nil, argE_cons, ↓vmD, vmV, vmStd, Nat.reduceMul, ↓reduceIte, Nat.reduceAdd, Nat.reduceSub, Nat.reduceEqDiff, Nat.reduceLT, Nat.reduceLeDiff, reduceCtorEq, Int.reduceToNat, Int.reduceLT, Int.reduceLE, Int.reduceEq, Int.reduceNeg, Int.reduceBEq, Int.reduceBNe, String.reduceEq, forall_const, ↓vmDA, vmVA, ↓vmQA, vmR, vmRA, ↓vmSA, vmSV, tyS, nuE, SubA.skip, SubA.refl, fr.2, areDigits_v, panSum_v, rdigits_v, rsum_v, panLuhn_v, rLuhn_v, panCheck_v, rCheck_v, calIsDate_v, calDay_v, stLim_v, slIndexByte_v, indexByte_v, indexRune_v, containsRune_v, classOf_v, isWordByte_v, letter_v, digit_v, wordAt_v, rword_v, isName_v, risName_v, awk_v, kl, wk, lbm, cm0, ln, t1, hkt]
          refine LoopA.weak (ihN (k + 1) true vr Br hN' (by omega) ?_ ?_ spr) (by simp only [subE, get_cons, Nat.reduceEqDiff, ↓reduceIte, reduceCtorEq, Nat.reduceAdd, and_self, and_true]) (SubA.refl _)
          · rw [htk2, List.any_append]; simp [hkk]
          · rw [htk2, List.filter_append]; simpa [hkk] using hor
        · obtain ⟨qr, cr, rfl, _, _⟩ := hor.read advC_len
          have hrl : (((waitL BANK (D.map Prod.snd)).take k).filter (fun d => !decide (d.key = x.key))).length ≤ 256 := by
            have := List.length_filter_le (fun d : Dec => !decide (d.key = x.key)) ((waitL BANK (D.map Prod.snd)).take k)
            rw [List.length_take] at this
            omega
          simp (maxDischargeDepth := 16) only [argE_nil, argE_cons, ↓vmD, vmV, vmStd, Nat.reduceMul, ↓reduceIte, Nat.reduceAdd, Nat.reduceSub, Nat.reduceEqDiff, Nat.reduceLT, Nat.reduceLeDiff, reduceCtorEq, Int.reduceToNat, Int.reduceLT, Int.reduceLE, Int.reduceEq, Int.reduceNeg, Int.reduceBEq, Int.reduceBNe, String.reduceEq, forall_const, ↓vmDA, vmVA, ↓vmQA, vmR, vmRA, ↓vmSA, vmSV, tyS, nuE, SubA.skip, SubA.refl, fr.2, areDigits_v, panSum_v, rdigits_v, rsum_v, panLuhn_v, rLuhn_v, panCheck_v, rCheck_v, calIsDate_v, calDay_v, stLim_v, slIndexByte_v, indexByte_v, indexRune_v, containsRune_v, classOf_v, isWordByte_v, letter_v, digit_v, wordAt_v, rword_v, isName_v, risName_v, awk_v, kl, wk, lbm, cm0, ln, t1, hkk, hcm, advC, sc_adv]
          have n0' := fr.2 0
          have hX : SubA (cat [[(n, (Obj.cells #[.int .i64 x.kind, .int .i64 x.at_, .string (bs x.key), .string (bs x.iss), .string (bs x.card), .int .i64 x.amt] 36))], E, B, A]) ((ν 0, Obj.cells (advC t).toArray 64) :: cat [Br, [(n, (Obj.cells #[.int .i64 x.kind, .int .i64 x.at_, .string (bs x.key), .string (bs x.iss), .string (bs x.card), .int .i64 x.amt] 36))], E, B, A]) := SubA.fresh n0' (spr.subs [1, 2, 3, 4] rfl)
          have hB1 : SubA Br ((ν 0, Obj.cells (advC t).toArray 64) :: cat [Br, [(n, (Obj.cells #[.int .i64 x.kind, .int .i64 x.at_, .string (bs x.key), .string (bs x.iss), .string (bs x.card), .int .i64 x.amt] 36))], E, B, A]) := SubA.fresh n0' (spr.subs [0] rfl)
          refine RunA.use ?_
          refine append_src (m := 1) (news := advC t) (B := Br) slc45 zro64 rfl (by decide) hor hB1 (.inr ⟨ν 0, 0, rfl, by simp (maxDischargeDepth := 16) only [argE_nil, argE_cons, ↓vmD, vmV, vmStd, Nat.reduceMul, ↓reduceIte, Nat.reduceAdd, Nat.reduceSub, Nat.reduceEqDiff, Nat.reduceLT, Nat.reduceLeDiff, reduceCtorEq, Int.reduceToNat, Int.reduceLT, Int.reduceLE, Int.reduceEq, Int.reduceNeg, Int.reduceBEq, Int.reduceBNe, String.reduceEq, forall_const, ↓vmDA, vmVA, ↓vmQA, vmR, vmRA, ↓vmSA, vmSV, tyS, nuE, SubA.skip, SubA.refl, fr.2, areDigits_v, panSum_v, rdigits_v, rsum_v, panLuhn_v, rLuhn_v, panCheck_v, rCheck_v, calIsDate_v, calDay_v, stLim_v, slIndexByte_v, indexByte_v, indexRune_v, containsRune_v, classOf_v, isWordByte_v, letter_v, digit_v, wordAt_v, rword_v, isName_v, risName_v, awk_v, advC]⟩) (by simp [advC, Value.oneCell']) (by simp only [maxLen]; omega) (by omega) ?_
          intro v' B' ho' hb'
          have dB' : Dis B' (cat [[(n, (Obj.cells #[.int .i64 x.kind, .int .i64 x.at_, .string (bs x.key), .string (bs x.iss), .string (bs x.card), .int .i64 x.amt] 36))], E, B, A]) := ap_dis hb' spr.dis hX
          refine ⟨cat [B', [(n, (Obj.cells #[.int .i64 x.kind, .int .i64 x.at_, .string (bs x.key), .string (bs x.iss), .string (bs x.card), .int .i64 x.amt] 36))], E, B, A], SubA.app hX, ?_⟩
          intro ν3 fr3
          have fr := fr3
          have nuE := fr.nu
          simp (maxDischargeDepth := 16) only [argE_nil, argE_cons, ↓vmD, vmV, vmStd, Nat.reduceMul, ↓reduceIte, Nat.reduceAdd, Nat.reduceSub, Nat.reduceEqDiff, Nat.reduceLT, Nat.reduceLeDiff, reduceCtorEq, Int.reduceToNat, Int.reduceLT, Int.reduceLE, Int.reduceEq, Int.reduceNeg, Int.reduceBEq, Int.reduceBNe, String.reduceEq, forall_const, ↓vmDA, vmVA, ↓vmQA, vmR, vmRA, ↓vmSA, vmSV, tyS, nuE, SubA.skip, SubA.refl, fr.2, areDigits_v, panSum_v, rdigits_v, rsum_v, panLuhn_v, rLuhn_v, panCheck_v, rCheck_v, calIsDate_v, calDay_v, stLim_v, slIndexByte_v, indexByte_v, indexRune_v, containsRune_v, classOf_v, isWordByte_v, letter_v, digit_v, wordAt_v, rword_v, isName_v, risName_v, awk_v, wk]
          refine LoopA.weak (ihN (k + 1) wv v' B' hN' (by omega) ?_ ?_ (Sep.cons dB' spr.2)) (by simp only [subE, get_cons, Nat.reduceEqDiff, ↓reduceIte, reduceCtorEq, Nat.reduceAdd, and_self, and_true]) (SubA.refl _)
          · rw [htk2, List.any_append]; simp [hkk, hwa2]
          · rw [htk2, List.filter_append]
            have := adv_app ho'
            simpa [hkk] using this
      | nil =>
        obtain ⟨hn1, hn2⟩ := drop_nil hN hkle
        have kl : ((k : Int) < ((waitL BANK (D.map Prod.snd)).length : Int)) = False := eq_false (by omega)
        rw [hn2] at hwa2 hor
        rw [waitL_any hu hI] at hwa2
        have ln : Vm.look (cat [Br, [(n, (Obj.cells #[.int .i64 x.kind, .int .i64 x.at_, .string (bs x.key), .string (bs x.iss), .string (bs x.card), .int .i64 x.amt] 36))], E, B, A]) n = some (Obj.cells #[.int .i64 x.kind, .int .i64 x.at_, .string (bs x.key), .string (bs x.iss), .string (bs x.card), .int .i64 x.amt] 36) := spr.sub [(n, (Obj.cells #[.int .i64 x.kind, .int .i64 x.at_, .string (bs x.key), .string (bs x.iss), .string (bs x.card), .int .i64 x.amt] 36))] (by simp) _ _ (by simp [Vm.look])
        obtain ⟨qr, cr, rfl, _, str⟩ := hor.read advC_len
        refine LoopA.intro (by kernel_rfl) ?_
        intro ν fr; have nuE := fr.nu
        by_cases hk1 : x.kind = 1
        · have hk1t := eq_true hk1
          simp (maxDischargeDepth := 16) only [argE_nil, argE_cons, ↓vmD, vmV, vmStd, Nat.reduceMul, ↓reduceIte, Nat.reduceAdd, Nat.reduceSub, Nat.reduceEqDiff, Nat.reduceLT, Nat.reduceLeDiff, reduceCtorEq, Int.reduceToNat, Int.reduceLT, Int.reduceLE, Int.reduceEq, Int.reduceNeg, Int.reduceBEq, Int.reduceBNe, String.reduceEq, forall_const, ↓vmDA, vmVA, ↓vmQA, vmR, vmRA, ↓vmSA, vmSV, tyS, nuE, SubA.skip, SubA.refl, fr.2, areDigits_v, panSum_v, rdigits_v, rsum_v, panLuhn_v, rLuhn_v, panCheck_v, rCheck_v, calIsDate_v, calDay_v, stLim_v, slIndexByte_v, indexByte_v, indexRune_v, containsRune_v, classOf_v, isWordByte_v, letter_v, digit_v, wordAt_v, rword_v, isName_v, risName_v, awk_v, kl, ln, hk1t]
          refine StS.use (X := cat [Br, [(n, (Obj.cells #[.int .i64 x.kind, .int .i64 x.at_, .string (bs x.key), .string (bs x.iss), .string (bs x.card), .int .i64 x.amt] 36))], A]) (reverse_h E sb LMB D hE x.key) (spr.subs [2] rfl) (spr.subs [0, 1, 4] rfl) (spr.pick [2, 0, 1, 4] rfl rfl).dis ?_
          have hrw := rev_wait BANK x.key hu hwa
          have hmm := fun d => mem_rev (L := D.map Prod.snd) (k := x.key) (d := d)
          generalize revX x.key (D.map Prod.snd) = R at hrw hmm ⊢
          obtain ⟨f, L1⟩ := R
          simp only at hrw hmm ⊢
          intro E1 D1 hE1 hD1 d1
          have sp1 : Sep [E1, Br, [(n, (Obj.cells #[.int .i64 x.kind, .int .i64 x.at_, .string (bs x.key), .string (bs x.iss), .string (bs x.card), .int .i64 x.amt] 36))], A] := Sep.cons d1 (spr.pick [0, 1, 4] rfl rfl)
          have ln1 : Vm.look (E1 ++ cat [Br, [(n, (Obj.cells #[.int .i64 x.kind, .int .i64 x.at_, .string (bs x.key), .string (bs x.iss), .string (bs x.card), .int .i64 x.amt] 36))], A]) n = some (Obj.cells #[.int .i64 x.kind, .int .i64 x.at_, .string (bs x.key), .string (bs x.iss), .string (bs x.card), .int .i64 x.amt] 36) := sp1.sub [(n, (Obj.cells #[.int .i64 x.kind, .int .i64 x.at_, .string (bs x.key), .string (bs x.iss), .string (bs x.card), .int .i64 x.amt] 36))] (by simp) _ _ (by simp [Vm.look])
          have sE : SubA E1 (E1 ++ cat [Br, [(n, (Obj.cells #[.int .i64 x.kind, .int .i64 x.at_, .string (bs x.key), .string (bs x.iss), .string (bs x.card), .int .i64 x.amt] 36))], A]) := sp1.subs [0] rfl
          have spT : Sep [E1, Br, A] := sp1.pick [0, 1, 3] rfl rfl
          have sT : SubA (cat [E1, Br, A]) (E1 ++ cat [Br, [(n, (Obj.cells #[.int .i64 x.kind, .int .i64 x.at_, .string (bs x.key), .string (bs x.iss), .string (bs x.card), .int .i64 x.amt] 36))], A]) := sp1.subs [0, 1, 3] rfl
          have hI1 : ∀ d ∈ D1.map Prod.snd, d.iss = BANK := by
            rw [hD1]
            intro c hc
            obtain ⟨d, hd1, hd2⟩ := hmm c hc
            rw [hd2]; exact hI d hd1
          have ho1 : OwnL advC 5 64 (.slice qr ((waitL BANK (D.map Prod.snd)).filter (fun d => !decide (d.key = x.key))).length cr) Br (waitL BANK (D1.map Prod.snd)) := by rw [hD1, hrw.1]; exact hor
          have hl1 : ((waitL BANK (D.map Prod.snd)).filter (fun d => !decide (d.key = x.key))).length = (waitL BANK (D1.map Prod.snd)).length := by rw [hD1, hrw.1]
          rw [← hrw.1, ← hD1] at str
          intro ν1 fr1
          have fr := fr1
          have nuE := fr.nu
          cases hwd : wv with
          | true =>
            have hf := hrw.2 (hwa2 ▸ hwd)
            subst hf
            simp (maxDischargeDepth := 16) only [argE_nil, argE_cons, ↓vmD, vmV, vmStd, Nat.reduceMul, ↓reduceIte, Nat.reduceAdd, Nat.reduceSub, Nat.reduceEqDiff, Nat.reduceLT, Nat.reduceLeDiff, reduceCtorEq, Int.reduceToNat, Int.reduceLT, Int.reduceLE, Int.reduceEq, Int.reduceNeg, Int.reduceBEq, Int.reduceBNe, String.reduceEq, forall_const, ↓vmDA, vmVA, ↓vmQA, vmR, vmRA, ↓vmSA, vmSV, tyS, nuE, SubA.skip, SubA.refl, fr.2, areDigits_v, panSum_v, rdigits_v, rsum_v, panLuhn_v, rLuhn_v, panCheck_v, rCheck_v, calIsDate_v, calDay_v, stLim_v, slIndexByte_v, indexByte_v, indexRune_v, containsRune_v, classOf_v, isWordByte_v, letter_v, digit_v, wordAt_v, rword_v, isName_v, risName_v, awk_v, ln1, hk1t]
            refine CallA.go (waiting_h E1 sb LMB D1 hE1 BANK) sE (fun v D h => SubA.trans h.choose_spec.choose_spec.2.2.1.right h.choose_spec.choose_spec.2.2.2) ?_
            rintro v2 A0 Q1 ⟨v2', B2, rfl, ho2, dB2, hs2⟩ hA1 hQ1 _
            obtain ⟨q2, c2, rfl, _, st2⟩ := ho2.read advC_len
            have st2' := st2.mono (SubA.trans (SubA.left B2 E1) (SubA.trans hs2 hA1))
            have st1' := str.mono (SubA.trans (spT.subs [1] rfl : SubA Br (cat [E1, Br, A])) (SubA.trans sT hQ1))
            have hMl := waitL_len (D1.map Prod.snd) BANK
            obtain ⟨_, _, _, _, _, _, _, _, _, _, _, _, _, _, _, _, _, _, _, hu1, hamt1, hlen1, _⟩ := hE1.out
            intro ν5 fr5
            have fr := fr5
            have nuE := fr.nu
            simp (maxDischargeDepth := 16) only [argE_nil, argE_cons, ↓vmD, vmV, vmStd, Nat.reduceMul, ↓reduceIte, Nat.reduceAdd, Nat.reduceSub, Nat.reduceEqDiff, Nat.reduceLT, Nat.reduceLeDiff, reduceCtorEq, Int.reduceToNat, Int.reduceLT, Int.reduceLE, Int.reduceEq, Int.reduceNeg, Int.reduceBEq, Int.reduceBNe, String.reduceEq, forall_const, ↓vmDA, vmVA, ↓vmQA, vmR, vmRA, ↓vmSA, vmSV, tyS, nuE, SubA.skip, SubA.refl, fr.2, areDigits_v, panSum_v, rdigits_v, rsum_v, panLuhn_v, rLuhn_v, panCheck_v, rCheck_v, calIsDate_v, calDay_v, stLim_v, slIndexByte_v, indexByte_v, indexRune_v, containsRune_v, classOf_v, isWordByte_v, letter_v, digit_v, wordAt_v, rword_v, isName_v, risName_v, awk_v, hl1, bne_self_eq_false]
            refine CallA.go (waiting_h E1 sb LMB D1 hE1 OTH) (SubA.trans sE hQ1) (fun v D h => SubA.trans h.choose_spec.choose_spec.2.2.1.right h.choose_spec.choose_spec.2.2.2) ?_
            rintro v3 A3 Q2 ⟨v3', B3, rfl, ho3, dB3, hs3⟩ hA3 hQ2 _
            rw [waitL_other hI1 bank_oth] at ho3
            obtain ⟨q5, c5, rfl, _⟩ := ho3.slice
            intro ν6 fr6
            have fr := fr6
            have nuE := fr.nu
            simp (maxDischargeDepth := 16) only [argE_nil, argE_cons, ↓vmD, vmV, vmStd, Nat.reduceMul, ↓reduceIte, Nat.reduceAdd, Nat.reduceSub, Nat.reduceEqDiff, Nat.reduceLT, Nat.reduceLeDiff, reduceCtorEq, Int.reduceToNat, Int.reduceLT, Int.reduceLE, Int.reduceEq, Int.reduceNeg, Int.reduceBEq, Int.reduceBNe, String.reduceEq, forall_const, ↓vmDA, vmVA, ↓vmQA, vmR, vmRA, ↓vmSA, vmSV, tyS, nuE, SubA.skip, SubA.refl, fr.2, areDigits_v, panSum_v, rdigits_v, rsum_v, panLuhn_v, rLuhn_v, panCheck_v, rCheck_v, calIsDate_v, calDay_v, stLim_v, slIndexByte_v, indexByte_v, indexRune_v, containsRune_v, classOf_v, isWordByte_v, letter_v, digit_v, wordAt_v, rword_v, isName_v, risName_v, awk_v, List.length_nil]
            obtain ⟨g, G, hg, hG, hgle⟩ : ∃ (g : Nat) (G : List Dec), g = 0 ∧ G = (waitL BANK (D1.map Prod.snd)).drop g ∧ g ≤ (waitL BANK (D1.map Prod.snd)).length := ⟨0, _, rfl, rfl, by simp⟩
            rw [show (17, some (Value.int .i64 0)) = (17, some (Value.int .i64 (g : Int))) by rw [hg]; rfl]
            clear hg nuE fr fr5 fr6
            induction G generalizing g with
            | nil =>
              obtain ⟨gn1, gn2⟩ := drop_nil hG hgle
              have gl : ((g : Int) < ((waitL BANK (D1.map Prod.snd)).length : Int)) = False := eq_false (by omega)
              refine LoopA.intro (by kernel_rfl) ?_
              intro ν fr; have nuE := fr.nu
              simp (maxDischargeDepth := 16) only [argE_nil, argE_cons, ↓vmD, vmV, vmStd, Nat.reduceMul, ↓reduceIte, Nat.reduceAdd, Nat.reduceSub, Nat.reduceEqDiff, Nat.reduceLT, Nat.reduceLeDiff, reduceCtorEq, Int.reduceToNat, Int.reduceLT, Int.reduceLE, Int.reduceEq, Int.reduceNeg, Int.reduceBEq, Int.reduceBNe, String.reduceEq, forall_const, ↓vmDA, vmVA, ↓vmQA, vmR, vmRA, ↓vmSA, vmSV, tyS, nuE, SubA.skip, SubA.refl, fr.2, areDigits_v, panSum_v, rdigits_v, rsum_v, panLuhn_v, rLuhn_v, panCheck_v, rCheck_v, calIsDate_v, calDay_v, stLim_v, slIndexByte_v, indexByte_v, indexRune_v, containsRune_v, classOf_v, isWordByte_v, letter_v, digit_v, wordAt_v, rword_v, isName_v, risName_v, awk_v, gl, we]
              exact LoopA.weak (ih (e := e + 1) (D := D1) (E := E1) (B := Br) (hd := hd') (hle := by omega) (hE := hE1) (hI := hI1) (ho := ho1) (sp := spT)) (by simp only [subE, get_cons, Nat.reduceEqDiff, ↓reduceIte, reduceCtorEq, Nat.reduceAdd, and_self, and_true, hl1]) (SubA.trans sT (SubA.trans hQ1 hQ2))
            | cons y G ihG =>
              obtain ⟨ga, gll, hG', _⟩ := drop_some hG
              have gl : ((g : Int) < ((waitL BANK (D1.map Prod.snd)).length : Int)) = True := eq_true (by omega)
              have wg : IntKind.i64.wrap ((g : Int) + 1) = ((g + 1 : Nat) : Int) := by rw [w_i64 (by omega) (by omega)]; omega
              obtain ⟨b1, o1, cs1, t1, r1, e1, k1', m1, _⟩ := st1'.at ga
              obtain ⟨b2, o2, cs2, t2, r2, e2, k2', m2, _⟩ := st2'.at ga
              subst e1 e2
              have k1'' := hQ2 _ _ k1'
              have k2'' := hQ2 _ _ k2'
              refine LoopA.intro (by kernel_rfl) ?_
              intro ν fr; have nuE := fr.nu
              simp (maxDischargeDepth := 16) only [argE_nil, argE_cons, ↓vmD, vmV, vmStd, Nat.reduceMul, ↓reduceIte, Nat.reduceAdd, Nat.reduceSub, Nat.reduceEqDiff, Nat.reduceLT, Nat.reduceLeDiff, reduceCtorEq, Int.reduceToNat, Int.reduceLT, Int.reduceLE, Int.reduceEq, Int.reduceNeg, Int.reduceBEq, Int.reduceBNe, String.reduceEq, forall_const, ↓vmDA, vmVA, ↓vmQA, vmR, vmRA, ↓vmSA, vmSV, tyS, nuE, SubA.skip, SubA.refl, fr.2, areDigits_v, panSum_v, rdigits_v, rsum_v, panLuhn_v, rLuhn_v, panCheck_v, rCheck_v, calIsDate_v, calDay_v, stLim_v, slIndexByte_v, indexByte_v, indexRune_v, containsRune_v, classOf_v, isWordByte_v, letter_v, digit_v, wordAt_v, rword_v, isName_v, risName_v, awk_v, hl1, gl, wg, k1'', k2'', m1, m2, advC, BEq.rfl, bne_self_eq_false]
              exact LoopA.weak (ihG (g + 1) hG' (by omega)) (by simp only [subE, get_cons, Nat.reduceEqDiff, ↓reduceIte, reduceCtorEq, Nat.reduceAdd, and_self, and_true]) (SubA.refl _)
          | false =>
            simp (maxDischargeDepth := 16) only [argE_nil, argE_cons, ↓vmD, vmV, vmStd, Nat.reduceMul, ↓reduceIte, Nat.reduceAdd, Nat.reduceSub, Nat.reduceEqDiff, Nat.reduceLT, Nat.reduceLeDiff, reduceCtorEq, Int.reduceToNat, Int.reduceLT, Int.reduceLE, Int.reduceEq, Int.reduceNeg, Int.reduceBEq, Int.reduceBNe, String.reduceEq, forall_const, ↓vmDA, vmVA, ↓vmQA, vmR, vmRA, ↓vmSA, vmSV, tyS, nuE, SubA.skip, SubA.refl, fr.2, areDigits_v, panSum_v, rdigits_v, rsum_v, panLuhn_v, rLuhn_v, panCheck_v, rCheck_v, calIsDate_v, calDay_v, stLim_v, slIndexByte_v, indexByte_v, indexRune_v, containsRune_v, classOf_v, isWordByte_v, letter_v, digit_v, wordAt_v, rword_v, isName_v, risName_v, awk_v, ln1, hk1t]
            refine CallA.go (waiting_h E1 sb LMB D1 hE1 BANK) sE (fun v D h => SubA.trans h.choose_spec.choose_spec.2.2.1.right h.choose_spec.choose_spec.2.2.2) ?_
            rintro v2 A0 Q1 ⟨v2', B2, rfl, ho2, dB2, hs2⟩ hA1 hQ1 _
            obtain ⟨q2, c2, rfl, _, st2⟩ := ho2.read advC_len
            have st2' := st2.mono (SubA.trans (SubA.left B2 E1) (SubA.trans hs2 hA1))
            have st1' := str.mono (SubA.trans (spT.subs [1] rfl : SubA Br (cat [E1, Br, A])) (SubA.trans sT hQ1))
            have hMl := waitL_len (D1.map Prod.snd) BANK
            obtain ⟨_, _, _, _, _, _, _, _, _, _, _, _, _, _, _, _, _, _, _, hu1, hamt1, hlen1, _⟩ := hE1.out
            intro ν5 fr5
            have fr := fr5
            have nuE := fr.nu
            simp (maxDischargeDepth := 16) only [argE_nil, argE_cons, ↓vmD, vmV, vmStd, Nat.reduceMul, ↓reduceIte, Nat.reduceAdd, Nat.reduceSub, Nat.reduceEqDiff, Nat.reduceLT, Nat.reduceLeDiff, reduceCtorEq, Int.reduceToNat, Int.reduceLT, Int.reduceLE, Int.reduceEq, Int.reduceNeg, Int.reduceBEq, Int.reduceBNe, String.reduceEq, forall_const, ↓vmDA, vmVA, ↓vmQA, vmR, vmRA, ↓vmSA, vmSV, tyS, nuE, SubA.skip, SubA.refl, fr.2, areDigits_v, panSum_v, rdigits_v, rsum_v, panLuhn_v, rLuhn_v, panCheck_v, rCheck_v, calIsDate_v, calDay_v, stLim_v, slIndexByte_v, indexByte_v, indexRune_v, containsRune_v, classOf_v, isWordByte_v, letter_v, digit_v, wordAt_v, rword_v, isName_v, risName_v, awk_v, hl1, bne_self_eq_false]
            refine CallA.go (waiting_h E1 sb LMB D1 hE1 OTH) (SubA.trans sE hQ1) (fun v D h => SubA.trans h.choose_spec.choose_spec.2.2.1.right h.choose_spec.choose_spec.2.2.2) ?_
            rintro v3 A3 Q2 ⟨v3', B3, rfl, ho3, dB3, hs3⟩ hA3 hQ2 _
            rw [waitL_other hI1 bank_oth] at ho3
            obtain ⟨q5, c5, rfl, _⟩ := ho3.slice
            intro ν6 fr6
            have fr := fr6
            have nuE := fr.nu
            simp (maxDischargeDepth := 16) only [argE_nil, argE_cons, ↓vmD, vmV, vmStd, Nat.reduceMul, ↓reduceIte, Nat.reduceAdd, Nat.reduceSub, Nat.reduceEqDiff, Nat.reduceLT, Nat.reduceLeDiff, reduceCtorEq, Int.reduceToNat, Int.reduceLT, Int.reduceLE, Int.reduceEq, Int.reduceNeg, Int.reduceBEq, Int.reduceBNe, String.reduceEq, forall_const, ↓vmDA, vmVA, ↓vmQA, vmR, vmRA, ↓vmSA, vmSV, tyS, nuE, SubA.skip, SubA.refl, fr.2, areDigits_v, panSum_v, rdigits_v, rsum_v, panLuhn_v, rLuhn_v, panCheck_v, rCheck_v, calIsDate_v, calDay_v, stLim_v, slIndexByte_v, indexByte_v, indexRune_v, containsRune_v, classOf_v, isWordByte_v, letter_v, digit_v, wordAt_v, rword_v, isName_v, risName_v, awk_v, List.length_nil]
            obtain ⟨g, G, hg, hG, hgle⟩ : ∃ (g : Nat) (G : List Dec), g = 0 ∧ G = (waitL BANK (D1.map Prod.snd)).drop g ∧ g ≤ (waitL BANK (D1.map Prod.snd)).length := ⟨0, _, rfl, rfl, by simp⟩
            rw [show (17, some (Value.int .i64 0)) = (17, some (Value.int .i64 (g : Int))) by rw [hg]; rfl]
            clear hg nuE fr fr5 fr6
            induction G generalizing g with
            | nil =>
              obtain ⟨gn1, gn2⟩ := drop_nil hG hgle
              have gl : ((g : Int) < ((waitL BANK (D1.map Prod.snd)).length : Int)) = False := eq_false (by omega)
              refine LoopA.intro (by kernel_rfl) ?_
              intro ν fr; have nuE := fr.nu
              simp (maxDischargeDepth := 16) only [argE_nil, argE_cons, ↓vmD, vmV, vmStd, Nat.reduceMul, ↓reduceIte, Nat.reduceAdd, Nat.reduceSub, Nat.reduceEqDiff, Nat.reduceLT, Nat.reduceLeDiff, reduceCtorEq, Int.reduceToNat, Int.reduceLT, Int.reduceLE, Int.reduceEq, Int.reduceNeg, Int.reduceBEq, Int.reduceBNe, String.reduceEq, forall_const, ↓vmDA, vmVA, ↓vmQA, vmR, vmRA, ↓vmSA, vmSV, tyS, nuE, SubA.skip, SubA.refl, fr.2, areDigits_v, panSum_v, rdigits_v, rsum_v, panLuhn_v, rLuhn_v, panCheck_v, rCheck_v, calIsDate_v, calDay_v, stLim_v, slIndexByte_v, indexByte_v, indexRune_v, containsRune_v, classOf_v, isWordByte_v, letter_v, digit_v, wordAt_v, rword_v, isName_v, risName_v, awk_v, gl, we]
              exact LoopA.weak (ih (e := e + 1) (D := D1) (E := E1) (B := Br) (hd := hd') (hle := by omega) (hE := hE1) (hI := hI1) (ho := ho1) (sp := spT)) (by simp only [subE, get_cons, Nat.reduceEqDiff, ↓reduceIte, reduceCtorEq, Nat.reduceAdd, and_self, and_true, hl1]) (SubA.trans sT (SubA.trans hQ1 hQ2))
            | cons y G ihG =>
              obtain ⟨ga, gll, hG', _⟩ := drop_some hG
              have gl : ((g : Int) < ((waitL BANK (D1.map Prod.snd)).length : Int)) = True := eq_true (by omega)
              have wg : IntKind.i64.wrap ((g : Int) + 1) = ((g + 1 : Nat) : Int) := by rw [w_i64 (by omega) (by omega)]; omega
              obtain ⟨b1, o1, cs1, t1, r1, e1, k1', m1, _⟩ := st1'.at ga
              obtain ⟨b2, o2, cs2, t2, r2, e2, k2', m2, _⟩ := st2'.at ga
              subst e1 e2
              have k1'' := hQ2 _ _ k1'
              have k2'' := hQ2 _ _ k2'
              refine LoopA.intro (by kernel_rfl) ?_
              intro ν fr; have nuE := fr.nu
              simp (maxDischargeDepth := 16) only [argE_nil, argE_cons, ↓vmD, vmV, vmStd, Nat.reduceMul, ↓reduceIte, Nat.reduceAdd, Nat.reduceSub, Nat.reduceEqDiff, Nat.reduceLT, Nat.reduceLeDiff, reduceCtorEq, Int.reduceToNat, Int.reduceLT, Int.reduceLE, Int.reduceEq, Int.reduceNeg, Int.reduceBEq, Int.reduceBNe, String.reduceEq, forall_const, ↓vmDA, vmVA, ↓vmQA, vmR, vmRA, ↓vmSA, vmSV, tyS, nuE, SubA.skip, SubA.refl, fr.2, areDigits_v, panSum_v, rdigits_v, rsum_v, panLuhn_v, rLuhn_v, panCheck_v, rCheck_v, calIsDate_v, calDay_v, stLim_v, slIndexByte_v, indexByte_v, indexRune_v, containsRune_v, classOf_v, isWordByte_v, letter_v, digit_v, wordAt_v, rword_v, isName_v, risName_v, awk_v, hl1, gl, wg, k1'', k2'', m1, m2, advC, BEq.rfl, bne_self_eq_false]
              exact LoopA.weak (ihG (g + 1) hG' (by omega)) (by simp only [subE, get_cons, Nat.reduceEqDiff, ↓reduceIte, reduceCtorEq, Nat.reduceAdd, and_self, and_true]) (SubA.refl _)
        · have hk1f := eq_false hk1
          simp (maxDischargeDepth := 16) only [argE_nil, argE_cons, ↓vmD, vmV, vmStd, Nat.reduceMul, ↓reduceIte, Nat.reduceAdd, Nat.reduceSub, Nat.reduceEqDiff, Nat.reduceLT, Nat.reduceLeDiff, reduceCtorEq, Int.reduceToNat, Int.reduceLT, Int.reduceLE, Int.reduceEq, Int.reduceNeg, Int.reduceBEq, Int.reduceBNe, String.reduceEq, forall_const, ↓vmDA, vmVA, ↓vmQA, vmR, vmRA, ↓vmSA, vmSV, tyS, nuE, SubA.skip, SubA.refl, fr.2, areDigits_v, panSum_v, rdigits_v, rsum_v, panLuhn_v, rLuhn_v, panCheck_v, rCheck_v, calIsDate_v, calDay_v, stLim_v, slIndexByte_v, indexByte_v, indexRune_v, containsRune_v, classOf_v, isWordByte_v, letter_v, digit_v, wordAt_v, rword_v, isName_v, risName_v, awk_v, kl, ln, hk1f]
          refine StS.use (X := cat [Br, [(n, (Obj.cells #[.int .i64 x.kind, .int .i64 x.at_, .string (bs x.key), .string (bs x.iss), .string (bs x.card), .int .i64 x.amt] 36))], A]) (ack_h E sb LMB D hE x.key) (spr.subs [2] rfl) (spr.subs [0, 1, 4] rfl) (spr.pick [2, 0, 1, 4] rfl rfl).dis ?_
          have hrw := ack_wait BANK x.key hu
          have hmm := fun d => mem_ack (L := D.map Prod.snd) (k := x.key) (d := d)
          generalize ackX x.key (D.map Prod.snd) = R at hrw hmm ⊢
          obtain ⟨f, L1⟩ := R
          simp only at hrw hmm ⊢
          intro E1 D1 hE1 hD1 d1
          have sp1 : Sep [E1, Br, [(n, (Obj.cells #[.int .i64 x.kind, .int .i64 x.at_, .string (bs x.key), .string (bs x.iss), .string (bs x.card), .int .i64 x.amt] 36))], A] := Sep.cons d1 (spr.pick [0, 1, 4] rfl rfl)
          have ln1 : Vm.look (E1 ++ cat [Br, [(n, (Obj.cells #[.int .i64 x.kind, .int .i64 x.at_, .string (bs x.key), .string (bs x.iss), .string (bs x.card), .int .i64 x.amt] 36))], A]) n = some (Obj.cells #[.int .i64 x.kind, .int .i64 x.at_, .string (bs x.key), .string (bs x.iss), .string (bs x.card), .int .i64 x.amt] 36) := sp1.sub [(n, (Obj.cells #[.int .i64 x.kind, .int .i64 x.at_, .string (bs x.key), .string (bs x.iss), .string (bs x.card), .int .i64 x.amt] 36))] (by simp) _ _ (by simp [Vm.look])
          have sE : SubA E1 (E1 ++ cat [Br, [(n, (Obj.cells #[.int .i64 x.kind, .int .i64 x.at_, .string (bs x.key), .string (bs x.iss), .string (bs x.card), .int .i64 x.amt] 36))], A]) := sp1.subs [0] rfl
          have spT : Sep [E1, Br, A] := sp1.pick [0, 1, 3] rfl rfl
          have sT : SubA (cat [E1, Br, A]) (E1 ++ cat [Br, [(n, (Obj.cells #[.int .i64 x.kind, .int .i64 x.at_, .string (bs x.key), .string (bs x.iss), .string (bs x.card), .int .i64 x.amt] 36))], A]) := sp1.subs [0, 1, 3] rfl
          have hI1 : ∀ d ∈ D1.map Prod.snd, d.iss = BANK := by
            rw [hD1]
            intro c hc
            obtain ⟨d, hd1, hd2⟩ := hmm c hc
            rw [hd2]; exact hI d hd1
          have ho1 : OwnL advC 5 64 (.slice qr ((waitL BANK (D.map Prod.snd)).filter (fun d => !decide (d.key = x.key))).length cr) Br (waitL BANK (D1.map Prod.snd)) := by rw [hD1, hrw.1]; exact hor
          have hl1 : ((waitL BANK (D.map Prod.snd)).filter (fun d => !decide (d.key = x.key))).length = (waitL BANK (D1.map Prod.snd)).length := by rw [hD1, hrw.1]
          rw [← hrw.1, ← hD1] at str
          intro ν1 fr1
          have fr := fr1
          have nuE := fr.nu
          rw [← hwa2] at hrw
          cases hwd : wv with
          | true =>
            have hf := hrw.2
            rw [hwd, if_pos rfl] at hf
            subst hf
            simp (maxDischargeDepth := 16) only [argE_nil, argE_cons, ↓vmD, vmV, vmStd, Nat.reduceMul, ↓reduceIte, Nat.reduceAdd, Nat.reduceSub, Nat.reduceEqDiff, Nat.reduceLT, Nat.reduceLeDiff, reduceCtorEq, Int.reduceToNat, Int.reduceLT, Int.reduceLE, Int.reduceEq, Int.reduceNeg, Int.reduceBEq, Int.reduceBNe, String.reduceEq, forall_const, ↓vmDA, vmVA, ↓vmQA, vmR, vmRA, ↓vmSA, vmSV, tyS, nuE, SubA.skip, SubA.refl, fr.2, areDigits_v, panSum_v, rdigits_v, rsum_v, panLuhn_v, rLuhn_v, panCheck_v, rCheck_v, calIsDate_v, calDay_v, stLim_v, slIndexByte_v, indexByte_v, indexRune_v, containsRune_v, classOf_v, isWordByte_v, letter_v, digit_v, wordAt_v, rword_v, isName_v, risName_v, awk_v, ln1, hk1f]
            refine CallA.go (waiting_h E1 sb LMB D1 hE1 BANK) sE (fun v D h => SubA.trans h.choose_spec.choose_spec.2.2.1.right h.choose_spec.choose_spec.2.2.2) ?_
            rintro v2 A0 Q1 ⟨v2', B2, rfl, ho2, dB2, hs2⟩ hA1 hQ1 _
            obtain ⟨q2, c2, rfl, _, st2⟩ := ho2.read advC_len
            have st2' := st2.mono (SubA.trans (SubA.left B2 E1) (SubA.trans hs2 hA1))
            have st1' := str.mono (SubA.trans (spT.subs [1] rfl : SubA Br (cat [E1, Br, A])) (SubA.trans sT hQ1))
            have hMl := waitL_len (D1.map Prod.snd) BANK
            obtain ⟨_, _, _, _, _, _, _, _, _, _, _, _, _, _, _, _, _, _, _, hu1, hamt1, hlen1, _⟩ := hE1.out
            intro ν5 fr5
            have fr := fr5
            have nuE := fr.nu
            simp (maxDischargeDepth := 16) only [argE_nil, argE_cons, ↓vmD, vmV, vmStd, Nat.reduceMul, ↓reduceIte, Nat.reduceAdd, Nat.reduceSub, Nat.reduceEqDiff, Nat.reduceLT, Nat.reduceLeDiff, reduceCtorEq, Int.reduceToNat, Int.reduceLT, Int.reduceLE, Int.reduceEq, Int.reduceNeg, Int.reduceBEq, Int.reduceBNe, String.reduceEq, forall_const, ↓vmDA, vmVA, ↓vmQA, vmR, vmRA, ↓vmSA, vmSV, tyS, nuE, SubA.skip, SubA.refl, fr.2, areDigits_v, panSum_v, rdigits_v, rsum_v, panLuhn_v, rLuhn_v, panCheck_v, rCheck_v, calIsDate_v, calDay_v, stLim_v, slIndexByte_v, indexByte_v, indexRune_v, containsRune_v, classOf_v, isWordByte_v, letter_v, digit_v, wordAt_v, rword_v, isName_v, risName_v, awk_v, hl1, bne_self_eq_false]
            refine CallA.go (waiting_h E1 sb LMB D1 hE1 OTH) (SubA.trans sE hQ1) (fun v D h => SubA.trans h.choose_spec.choose_spec.2.2.1.right h.choose_spec.choose_spec.2.2.2) ?_
            rintro v3 A3 Q2 ⟨v3', B3, rfl, ho3, dB3, hs3⟩ hA3 hQ2 _
            rw [waitL_other hI1 bank_oth] at ho3
            obtain ⟨q5, c5, rfl, _⟩ := ho3.slice
            intro ν6 fr6
            have fr := fr6
            have nuE := fr.nu
            simp (maxDischargeDepth := 16) only [argE_nil, argE_cons, ↓vmD, vmV, vmStd, Nat.reduceMul, ↓reduceIte, Nat.reduceAdd, Nat.reduceSub, Nat.reduceEqDiff, Nat.reduceLT, Nat.reduceLeDiff, reduceCtorEq, Int.reduceToNat, Int.reduceLT, Int.reduceLE, Int.reduceEq, Int.reduceNeg, Int.reduceBEq, Int.reduceBNe, String.reduceEq, forall_const, ↓vmDA, vmVA, ↓vmQA, vmR, vmRA, ↓vmSA, vmSV, tyS, nuE, SubA.skip, SubA.refl, fr.2, areDigits_v, panSum_v, rdigits_v, rsum_v, panLuhn_v, rLuhn_v, panCheck_v, rCheck_v, calIsDate_v, calDay_v, stLim_v, slIndexByte_v, indexByte_v, indexRune_v, containsRune_v, classOf_v, isWordByte_v, letter_v, digit_v, wordAt_v, rword_v, isName_v, risName_v, awk_v, List.length_nil]
            obtain ⟨g, G, hg, hG, hgle⟩ : ∃ (g : Nat) (G : List Dec), g = 0 ∧ G = (waitL BANK (D1.map Prod.snd)).drop g ∧ g ≤ (waitL BANK (D1.map Prod.snd)).length := ⟨0, _, rfl, rfl, by simp⟩
            rw [show (17, some (Value.int .i64 0)) = (17, some (Value.int .i64 (g : Int))) by rw [hg]; rfl]
            clear hg nuE fr fr5 fr6
            induction G generalizing g with
            | nil =>
              obtain ⟨gn1, gn2⟩ := drop_nil hG hgle
              have gl : ((g : Int) < ((waitL BANK (D1.map Prod.snd)).length : Int)) = False := eq_false (by omega)
              refine LoopA.intro (by kernel_rfl) ?_
              intro ν fr; have nuE := fr.nu
              simp (maxDischargeDepth := 16) only [argE_nil, argE_cons, ↓vmD, vmV, vmStd, Nat.reduceMul, ↓reduceIte, Nat.reduceAdd, Nat.reduceSub, Nat.reduceEqDiff, Nat.reduceLT, Nat.reduceLeDiff, reduceCtorEq, Int.reduceToNat, Int.reduceLT, Int.reduceLE, Int.reduceEq, Int.reduceNeg, Int.reduceBEq, Int.reduceBNe, String.reduceEq, forall_const, ↓vmDA, vmVA, ↓vmQA, vmR, vmRA, ↓vmSA, vmSV, tyS, nuE, SubA.skip, SubA.refl, fr.2, areDigits_v, panSum_v, rdigits_v, rsum_v, panLuhn_v, rLuhn_v, panCheck_v, rCheck_v, calIsDate_v, calDay_v, stLim_v, slIndexByte_v, indexByte_v, indexRune_v, containsRune_v, classOf_v, isWordByte_v, letter_v, digit_v, wordAt_v, rword_v, isName_v, risName_v, awk_v, gl, we]
              exact LoopA.weak (ih (e := e + 1) (D := D1) (E := E1) (B := Br) (hd := hd') (hle := by omega) (hE := hE1) (hI := hI1) (ho := ho1) (sp := spT)) (by simp only [subE, get_cons, Nat.reduceEqDiff, ↓reduceIte, reduceCtorEq, Nat.reduceAdd, and_self, and_true, hl1]) (SubA.trans sT (SubA.trans hQ1 hQ2))
            | cons y G ihG =>
              obtain ⟨ga, gll, hG', _⟩ := drop_some hG
              have gl : ((g : Int) < ((waitL BANK (D1.map Prod.snd)).length : Int)) = True := eq_true (by omega)
              have wg : IntKind.i64.wrap ((g : Int) + 1) = ((g + 1 : Nat) : Int) := by rw [w_i64 (by omega) (by omega)]; omega
              obtain ⟨b1, o1, cs1, t1, r1, e1, k1', m1, _⟩ := st1'.at ga
              obtain ⟨b2, o2, cs2, t2, r2, e2, k2', m2, _⟩ := st2'.at ga
              subst e1 e2
              have k1'' := hQ2 _ _ k1'
              have k2'' := hQ2 _ _ k2'
              refine LoopA.intro (by kernel_rfl) ?_
              intro ν fr; have nuE := fr.nu
              simp (maxDischargeDepth := 16) only [argE_nil, argE_cons, ↓vmD, vmV, vmStd, Nat.reduceMul, ↓reduceIte, Nat.reduceAdd, Nat.reduceSub, Nat.reduceEqDiff, Nat.reduceLT, Nat.reduceLeDiff, reduceCtorEq, Int.reduceToNat, Int.reduceLT, Int.reduceLE, Int.reduceEq, Int.reduceNeg, Int.reduceBEq, Int.reduceBNe, String.reduceEq, forall_const, ↓vmDA, vmVA, ↓vmQA, vmR, vmRA, ↓vmSA, vmSV, tyS, nuE, SubA.skip, SubA.refl, fr.2, areDigits_v, panSum_v, rdigits_v, rsum_v, panLuhn_v, rLuhn_v, panCheck_v, rCheck_v, calIsDate_v, calDay_v, stLim_v, slIndexByte_v, indexByte_v, indexRune_v, containsRune_v, classOf_v, isWordByte_v, letter_v, digit_v, wordAt_v, rword_v, isName_v, risName_v, awk_v, hl1, gl, wg, k1'', k2'', m1, m2, advC, BEq.rfl, bne_self_eq_false]
              exact LoopA.weak (ihG (g + 1) hG' (by omega)) (by simp only [subE, get_cons, Nat.reduceEqDiff, ↓reduceIte, reduceCtorEq, Nat.reduceAdd, and_self, and_true]) (SubA.refl _)
          | false =>
            have hf := hrw.2
            rw [hwd, if_neg (by simp)] at hf
            subst hf
            simp (maxDischargeDepth := 16) only [argE_nil, argE_cons, ↓vmD, vmV, vmStd, Nat.reduceMul, ↓reduceIte, Nat.reduceAdd, Nat.reduceSub, Nat.reduceEqDiff, Nat.reduceLT, Nat.reduceLeDiff, reduceCtorEq, Int.reduceToNat, Int.reduceLT, Int.reduceLE, Int.reduceEq, Int.reduceNeg, Int.reduceBEq, Int.reduceBNe, String.reduceEq, forall_const, ↓vmDA, vmVA, ↓vmQA, vmR, vmRA, ↓vmSA, vmSV, tyS, nuE, SubA.skip, SubA.refl, fr.2, areDigits_v, panSum_v, rdigits_v, rsum_v, panLuhn_v, rLuhn_v, panCheck_v, rCheck_v, calIsDate_v, calDay_v, stLim_v, slIndexByte_v, indexByte_v, indexRune_v, containsRune_v, classOf_v, isWordByte_v, letter_v, digit_v, wordAt_v, rword_v, isName_v, risName_v, awk_v, ln1, hk1f]
            refine CallA.go (waiting_h E1 sb LMB D1 hE1 BANK) sE (fun v D h => SubA.trans h.choose_spec.choose_spec.2.2.1.right h.choose_spec.choose_spec.2.2.2) ?_
            rintro v2 A0 Q1 ⟨v2', B2, rfl, ho2, dB2, hs2⟩ hA1 hQ1 _
            obtain ⟨q2, c2, rfl, _, st2⟩ := ho2.read advC_len
            have st2' := st2.mono (SubA.trans (SubA.left B2 E1) (SubA.trans hs2 hA1))
            have st1' := str.mono (SubA.trans (spT.subs [1] rfl : SubA Br (cat [E1, Br, A])) (SubA.trans sT hQ1))
            have hMl := waitL_len (D1.map Prod.snd) BANK
            obtain ⟨_, _, _, _, _, _, _, _, _, _, _, _, _, _, _, _, _, _, _, hu1, hamt1, hlen1, _⟩ := hE1.out
            intro ν5 fr5
            have fr := fr5
            have nuE := fr.nu
            simp (maxDischargeDepth := 16) only [argE_nil, argE_cons, ↓vmD, vmV, vmStd, Nat.reduceMul, ↓reduceIte, Nat.reduceAdd, Nat.reduceSub, Nat.reduceEqDiff, Nat.reduceLT, Nat.reduceLeDiff, reduceCtorEq, Int.reduceToNat, Int.reduceLT, Int.reduceLE, Int.reduceEq, Int.reduceNeg, Int.reduceBEq, Int.reduceBNe, String.reduceEq, forall_const, ↓vmDA, vmVA, ↓vmQA, vmR, vmRA, ↓vmSA, vmSV, tyS, nuE, SubA.skip, SubA.refl, fr.2, areDigits_v, panSum_v, rdigits_v, rsum_v, panLuhn_v, rLuhn_v, panCheck_v, rCheck_v, calIsDate_v, calDay_v, stLim_v, slIndexByte_v, indexByte_v, indexRune_v, containsRune_v, classOf_v, isWordByte_v, letter_v, digit_v, wordAt_v, rword_v, isName_v, risName_v, awk_v, hl1, bne_self_eq_false]
            refine CallA.go (waiting_h E1 sb LMB D1 hE1 OTH) (SubA.trans sE hQ1) (fun v D h => SubA.trans h.choose_spec.choose_spec.2.2.1.right h.choose_spec.choose_spec.2.2.2) ?_
            rintro v3 A3 Q2 ⟨v3', B3, rfl, ho3, dB3, hs3⟩ hA3 hQ2 _
            rw [waitL_other hI1 bank_oth] at ho3
            obtain ⟨q5, c5, rfl, _⟩ := ho3.slice
            intro ν6 fr6
            have fr := fr6
            have nuE := fr.nu
            simp (maxDischargeDepth := 16) only [argE_nil, argE_cons, ↓vmD, vmV, vmStd, Nat.reduceMul, ↓reduceIte, Nat.reduceAdd, Nat.reduceSub, Nat.reduceEqDiff, Nat.reduceLT, Nat.reduceLeDiff, reduceCtorEq, Int.reduceToNat, Int.reduceLT, Int.reduceLE, Int.reduceEq, Int.reduceNeg, Int.reduceBEq, Int.reduceBNe, String.reduceEq, forall_const, ↓vmDA, vmVA, ↓vmQA, vmR, vmRA, ↓vmSA, vmSV, tyS, nuE, SubA.skip, SubA.refl, fr.2, areDigits_v, panSum_v, rdigits_v, rsum_v, panLuhn_v, rLuhn_v, panCheck_v, rCheck_v, calIsDate_v, calDay_v, stLim_v, slIndexByte_v, indexByte_v, indexRune_v, containsRune_v, classOf_v, isWordByte_v, letter_v, digit_v, wordAt_v, rword_v, isName_v, risName_v, awk_v, List.length_nil]
            obtain ⟨g, G, hg, hG, hgle⟩ : ∃ (g : Nat) (G : List Dec), g = 0 ∧ G = (waitL BANK (D1.map Prod.snd)).drop g ∧ g ≤ (waitL BANK (D1.map Prod.snd)).length := ⟨0, _, rfl, rfl, by simp⟩
            rw [show (17, some (Value.int .i64 0)) = (17, some (Value.int .i64 (g : Int))) by rw [hg]; rfl]
            clear hg nuE fr fr5 fr6
            induction G generalizing g with
            | nil =>
              obtain ⟨gn1, gn2⟩ := drop_nil hG hgle
              have gl : ((g : Int) < ((waitL BANK (D1.map Prod.snd)).length : Int)) = False := eq_false (by omega)
              refine LoopA.intro (by kernel_rfl) ?_
              intro ν fr; have nuE := fr.nu
              simp (maxDischargeDepth := 16) only [argE_nil, argE_cons, ↓vmD, vmV, vmStd, Nat.reduceMul, ↓reduceIte, Nat.reduceAdd, Nat.reduceSub, Nat.reduceEqDiff, Nat.reduceLT, Nat.reduceLeDiff, reduceCtorEq, Int.reduceToNat, Int.reduceLT, Int.reduceLE, Int.reduceEq, Int.reduceNeg, Int.reduceBEq, Int.reduceBNe, String.reduceEq, forall_const, ↓vmDA, vmVA, ↓vmQA, vmR, vmRA, ↓vmSA, vmSV, tyS, nuE, SubA.skip, SubA.refl, fr.2, areDigits_v, panSum_v, rdigits_v, rsum_v, panLuhn_v, rLuhn_v, panCheck_v, rCheck_v, calIsDate_v, calDay_v, stLim_v, slIndexByte_v, indexByte_v, indexRune_v, containsRune_v, classOf_v, isWordByte_v, letter_v, digit_v, wordAt_v, rword_v, isName_v, risName_v, awk_v, gl, we]
              exact LoopA.weak (ih (e := e + 1) (D := D1) (E := E1) (B := Br) (hd := hd') (hle := by omega) (hE := hE1) (hI := hI1) (ho := ho1) (sp := spT)) (by simp only [subE, get_cons, Nat.reduceEqDiff, ↓reduceIte, reduceCtorEq, Nat.reduceAdd, and_self, and_true, hl1]) (SubA.trans sT (SubA.trans hQ1 hQ2))
            | cons y G ihG =>
              obtain ⟨ga, gll, hG', _⟩ := drop_some hG
              have gl : ((g : Int) < ((waitL BANK (D1.map Prod.snd)).length : Int)) = True := eq_true (by omega)
              have wg : IntKind.i64.wrap ((g : Int) + 1) = ((g + 1 : Nat) : Int) := by rw [w_i64 (by omega) (by omega)]; omega
              obtain ⟨b1, o1, cs1, t1, r1, e1, k1', m1, _⟩ := st1'.at ga
              obtain ⟨b2, o2, cs2, t2, r2, e2, k2', m2, _⟩ := st2'.at ga
              subst e1 e2
              have k1'' := hQ2 _ _ k1'
              have k2'' := hQ2 _ _ k2'
              refine LoopA.intro (by kernel_rfl) ?_
              intro ν fr; have nuE := fr.nu
              simp (maxDischargeDepth := 16) only [argE_nil, argE_cons, ↓vmD, vmV, vmStd, Nat.reduceMul, ↓reduceIte, Nat.reduceAdd, Nat.reduceSub, Nat.reduceEqDiff, Nat.reduceLT, Nat.reduceLeDiff, reduceCtorEq, Int.reduceToNat, Int.reduceLT, Int.reduceLE, Int.reduceEq, Int.reduceNeg, Int.reduceBEq, Int.reduceBNe, String.reduceEq, forall_const, ↓vmDA, vmVA, ↓vmQA, vmR, vmRA, ↓vmSA, vmSV, tyS, nuE, SubA.skip, SubA.refl, fr.2, areDigits_v, panSum_v, rdigits_v, rsum_v, panLuhn_v, rLuhn_v, panCheck_v, rCheck_v, calIsDate_v, calDay_v, stLim_v, slIndexByte_v, indexByte_v, indexRune_v, containsRune_v, classOf_v, isWordByte_v, letter_v, digit_v, wordAt_v, rword_v, isName_v, risName_v, awk_v, hl1, gl, wg, k1'', k2'', m1, m2, advC, BEq.rfl, bne_self_eq_false]
              exact LoopA.weak (ihG (g + 1) hG' (by omega)) (by simp only [subE, get_cons, Nat.reduceEqDiff, ↓reduceIte, reduceCtorEq, Nat.reduceAdd, and_self, and_true]) (SubA.refl _)
theorem advLaw_w (A : AH) (L : List OpT) (q : Option Addr) (cap : Nat) (hL : StR opC 6 A q L) (hl : L.length ≤ 9223372036854775807) (B_ : AH) (hB_ : SubA A B_) : valA Try.prog 5 #[.slice q L.length cap] B_ = some (.bool true) := valA_eq (pureA_at (by kernel_rfl) (advLaw_h A L q cap hL hl) hB_)
theorem advLaw_v (A : AH) (L : List OpT) (q : Option Addr) (cap : Nat) (hL : StR opC 6 A q L) (hl : L.length ≤ 9223372036854775807) : valA Try.prog 5 #[.slice q L.length cap] A = some (.bool true) := valA_eq (pureA_at (by kernel_rfl) (advLaw_h A L q cap hL hl) (SubA.refl _))
end Go.Proofs.Ytmjkjpjjckcihaa
