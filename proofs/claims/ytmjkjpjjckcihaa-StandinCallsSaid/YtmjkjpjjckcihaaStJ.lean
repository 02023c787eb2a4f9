/-
Stand-in: the walks of the reference's stand-in that only read.
Conditions: none.
-/
import Derived.Test.YtmjkjpjjckcihaaStE
namespace Go.Proofs.Ytmjkjpjjckcihaa
open Go.Vm
set_option linter.unusedSimpArgs false
set_option linter.unusedVariables false
set_option maxHeartbeats 4000000
set_option maxRecDepth 20000
/-- A stand-in of the reference. -/
def StV (E : AH) (rb : Nat) (lm : List Lim) (L : List Dec) : Prop := ∃ (vl vc : Value) (Bl Bc : AH),
  E = cat [[(rb, (Obj.cells #[vl, vc] 79))], Bl, Bc] ∧ Sep [[(rb, (Obj.cells #[vl, vc] 79))], Bl, Bc] ∧ OwnL limC 4 76 vl Bl lm ∧ OwnL choC 9 91 vc Bc L ∧ DecOk L ∧ lm.length ≤ 1000
theorem StV.out {E : AH} {rb : Nat} {lm : List Lim} {L : List Dec} (hE : StV E rb lm L) : ∃ (ql qc : Option Addr) (cl cc : Nat), Vm.look E rb = some (Obj.cells #[.slice ql lm.length cl, .slice qc L.length cc] 79) ∧ StR limC 4 E ql lm ∧ StR choC 9 E qc L ∧ DecOk L ∧ lm.length ≤ 1000 := by
  obtain ⟨vl, vc, Bl, Bc, rfl, sp, h1, h2, h3, h4⟩ := hE
  obtain ⟨ql, cl, rfl, _, s1⟩ := h1.read limC_len
  obtain ⟨qc, cc, rfl, _, s2⟩ := h2.read choC_len
  exact ⟨ql, qc, cl, cc, sp.subs [0] rfl _ _ (by simp [pick, at_, cat, Vm.look]), s1.mono (sp.subs [1] rfl), s2.mono (sp.subs [2] rfl), h3, h4⟩
theorem rIsDate_h (n : Int) : CallA Try.prog 45 #[.int .i64 n] [] (fun u_ _ => u_ = .bool (decide (0 ≤ n) && decide (n ≤ 99999))) := by
  refine callA_of_denA ⟨Try.prog, 45, Try.f45, 9, [0, 2], [], [], _⟩ (args := [_]) Try.func45 rfl (by kernel_rfl) Try.ntmps45 (by simp) (by kernel_rfl) ?_
  intro ν fr; have nuE := fr.nu
  simp (maxDischargeDepth := 16) only [argE_nil, argE_cons, ↓vmD, vmV, vmStd, Nat.reduceMul, ↓reduceIte, Nat.reduceAdd, Nat.reduceSub, Nat.reduceEqDiff, Nat.reduceLT, Nat.reduceLeDiff, reduceCtorEq, Int.reduceToNat, Int.reduceLT, Int.reduceLE, Int.reduceEq, Int.reduceNeg, Int.reduceBEq, Int.reduceBNe, String.reduceEq, forall_const, ↓vmDA, vmVA, ↓vmQA, vmR, vmRA, ↓vmSA, vmSV, tyS, nuE, areDigits_v, panSum_v, rdigits_v, rsum_v, panLuhn_v, rLuhn_v, panCheck_v, rCheck_v, calIsDate_v, calDay_v, stLim_v, slIndexByte_v, indexByte_v, indexRune_v, containsRune_v, classOf_v, isWordByte_v, letter_v, digit_v, wordAt_v, rword_v, isName_v, risName_v]
  all_goals ((repeat' split) <;> (try simp_all) <;> (try omega))
theorem rIsDate_v (n : Int) (A_ : AH) : valA Try.prog 45 #[.int .i64 n] A_ = some (.bool (decide (0 ≤ n) && decide (n ≤ 99999))) := valA_eq (pureA_of (by kernel_rfl) (rIsDate_h n))
theorem rDay_h (n : Int) : CallA Try.prog 34 #[.int .i64 n] [] (fun u_ _ => u_ = dayV n) := by
  refine callA_of_denA ⟨Try.prog, 34, Try.f34, 20, [0, 2, 3], [], [], _⟩ (args := [_]) Try.func34 rfl (by kernel_rfl) Try.ntmps34 (by simp) (by kernel_rfl) ?_
  intro ν fr; have nuE := fr.nu
  by_cases a1 : n < 0
  · have e : dayV n = .tuple #[.int .i64 (-1), .int .i64 (-1)] := by unfold dayV; rw [day_no (.inl a1)]; rfl
    simp (maxDischargeDepth := 16) only [argE_nil, argE_cons, ↓vmD, vmV, vmStd, Nat.reduceMul, ↓reduceIte, Nat.reduceAdd, Nat.reduceSub, Nat.reduceEqDiff, Nat.reduceLT, Nat.reduceLeDiff, reduceCtorEq, Int.reduceToNat, Int.reduceLT, Int.reduceLE, Int.reduceEq, Int.reduceNeg, Int.reduceBEq, Int.reduceBNe, String.reduceEq, forall_const, ↓vmDA, vmVA, ↓vmQA, vmR, vmRA, ↓vmSA, vmSV, tyS, nuE, areDigits_v, panSum_v, rdigits_v, rsum_v, panLuhn_v, rLuhn_v, panCheck_v, rCheck_v, calIsDate_v, calDay_v, stLim_v, slIndexByte_v, indexByte_v, indexRune_v, containsRune_v, classOf_v, isWordByte_v, letter_v, digit_v, wordAt_v, rword_v, isName_v, risName_v, rIsDate_v, a1, e]
  by_cases a2 : 1099511627776 < n
  · have e : dayV n = .tuple #[.int .i64 (-1), .int .i64 (-1)] := by unfold dayV; rw [day_no (.inr (by omega))]; rfl
    simp (maxDischargeDepth := 16) only [argE_nil, argE_cons, ↓vmD, vmV, vmStd, Nat.reduceMul, ↓reduceIte, Nat.reduceAdd, Nat.reduceSub, Nat.reduceEqDiff, Nat.reduceLT, Nat.reduceLeDiff, reduceCtorEq, Int.reduceToNat, Int.reduceLT, Int.reduceLE, Int.reduceEq, Int.reduceNeg, Int.reduceBEq, Int.reduceBNe, String.reduceEq, forall_const, ↓vmDA, vmVA, ↓vmQA, vmR, vmRA, ↓vmSA, vmSV, tyS, nuE, areDigits_v, panSum_v, rdigits_v, rsum_v, panLuhn_v, rLuhn_v, panCheck_v, rCheck_v, calIsDate_v, calDay_v, stLim_v, slIndexByte_v, indexByte_v, indexRune_v, containsRune_v, classOf_v, isWordByte_v, letter_v, digit_v, wordAt_v, rword_v, isName_v, risName_v, rIsDate_v, a1, a2, e]
  have wq : IntKind.i64.wrap (n.tdiv 86400) = n.tdiv 86400 := by
    have : 0 ≤ n.tdiv 86400 ∧ n.tdiv 86400 ≤ n := by rw [Int.tdiv_eq_ediv_of_nonneg (by omega)]; omega
    exact w_i64 (by omega) (by omega)
  by_cases a3 : n ≤ 8639999999
  · have h := day_ok (n := n) (by omega) a3
    have e : dayV n = .tuple #[.int .i64 (n.tdiv 86400), .int .i64 (n.tmod 86400)] := by unfold dayV; rw [h.1, if_neg (by omega)]
    have q1 := h.2.1
    have q2 := h.2.2
    simp (maxDischargeDepth := 16) only [argE_nil, argE_cons, ↓vmD, vmV, vmStd, Nat.reduceMul, ↓reduceIte, Nat.reduceAdd, Nat.reduceSub, Nat.reduceEqDiff, Nat.reduceLT, Nat.reduceLeDiff, reduceCtorEq, Int.reduceToNat, Int.reduceLT, Int.reduceLE, Int.reduceEq, Int.reduceNeg, Int.reduceBEq, Int.reduceBNe, String.reduceEq, forall_const, ↓vmDA, vmVA, ↓vmQA, vmR, vmRA, ↓vmSA, vmSV, tyS, nuE, areDigits_v, panSum_v, rdigits_v, rsum_v, panLuhn_v, rLuhn_v, panCheck_v, rCheck_v, calIsDate_v, calDay_v, stLim_v, slIndexByte_v, indexByte_v, indexRune_v, containsRune_v, classOf_v, isWordByte_v, letter_v, digit_v, wordAt_v, rword_v, isName_v, risName_v, rIsDate_v, a1, a2, wq, q1, q2, e]
  · have h := div_big (n := n) (by omega)
    have q2 : ¬ n.tdiv 86400 ≤ 99999 := by omega
    have e : dayV n = .tuple #[.int .i64 (-1), .int .i64 (-1)] := by unfold dayV; rw [day_no (.inr (by omega))]; rfl
    simp (maxDischargeDepth := 16) only [argE_nil, argE_cons, ↓vmD, vmV, vmStd, Nat.reduceMul, ↓reduceIte, Nat.reduceAdd, Nat.reduceSub, Nat.reduceEqDiff, Nat.reduceLT, Nat.reduceLeDiff, reduceCtorEq, Int.reduceToNat, Int.reduceLT, Int.reduceLE, Int.reduceEq, Int.reduceNeg, Int.reduceBEq, Int.reduceBNe, String.reduceEq, forall_const, ↓vmDA, vmVA, ↓vmQA, vmR, vmRA, ↓vmSA, vmSV, tyS, nuE, areDigits_v, panSum_v, rdigits_v, rsum_v, panLuhn_v, rLuhn_v, panCheck_v, rCheck_v, calIsDate_v, calDay_v, stLim_v, slIndexByte_v, indexByte_v, indexRune_v, containsRune_v, classOf_v, isWordByte_v, letter_v, digit_v, wordAt_v, rword_v, isName_v, risName_v, rIsDate_v, a1, a2, wq, q2, e]
theorem rDay_v (n : Int) (A_ : AH) : valA Try.prog 34 #[.int .i64 n] A_ = some (dayV n) := valA_eq (pureA_of (by kernel_rfl) (rDay_h n))
theorem rAmount_h (n : Int) : CallA Try.prog 29 #[.int .i64 n] [] (fun u_ _ => u_ = .bool (decide (0 ≤ n) && decide (n ≤ 999999999999))) := by
  refine callA_of_denA ⟨Try.prog, 29, Try.f29, 9, [0, 2], [], [], _⟩ (args := [_]) Try.func29 rfl (by kernel_rfl) Try.ntmps29 (by simp) (by kernel_rfl) ?_
  intro ν fr; have nuE := fr.nu
  simp (maxDischargeDepth := 16) only [argE_nil, argE_cons, ↓vmD, vmV, vmStd, Nat.reduceMul, ↓reduceIte, Nat.reduceAdd, Nat.reduceSub, Nat.reduceEqDiff, Nat.reduceLT, Nat.reduceLeDiff, reduceCtorEq, Int.reduceToNat, Int.reduceLT, Int.reduceLE, Int.reduceEq, Int.reduceNeg, Int.reduceBEq, Int.reduceBNe, String.reduceEq, forall_const, ↓vmDA, vmVA, ↓vmQA, vmR, vmRA, ↓vmSA, vmSV, tyS, nuE, areDigits_v, panSum_v, rdigits_v, rsum_v, panLuhn_v, rLuhn_v, panCheck_v, rCheck_v, calIsDate_v, calDay_v, stLim_v, slIndexByte_v, indexByte_v, indexRune_v, containsRune_v, classOf_v, isWordByte_v, letter_v, digit_v, wordAt_v, rword_v, isName_v, risName_v, rIsDate_v, rDay_v]
  all_goals ((repeat' split) <;> (try simp_all) <;> (try omega))
theorem rAmount_v (n : Int) (A_ : AH) : valA Try.prog 29 #[.int .i64 n] A_ = some (.bool (decide (0 ≤ n) && decide (n ≤ 999999999999))) := valA_eq (pureA_of (by kernel_rfl) (rAmount_h n))
theorem posD_drop {s : List UInt8} {L : List Dec} {e : Nat} {x : Dec} {l : List Dec} (h3 : x :: l = L.drop e) (hn : ∀ y ∈ L.take e, y.key ≠ s) (hx : x.key = s) : posD s L = some e := by
  obtain ⟨ha, hlt, _, _⟩ := drop_some h3
  have : ∀ (A B : List Dec), (∀ y ∈ A, y.key ≠ s) → posD s (A ++ x :: B) = some A.length := by
    intro A
    induction A with
    | nil => intro B _; simp [posD, hx]
    | cons a A ih =>
      intro B h
      simp only [List.cons_append, posD]
      rw [if_neg (h a (by simp)), ih B fun y hy => h y (by simp [hy])]
      rfl
  have h2 := this (L.take e) l hn
  rw [h3, List.take_append_drop, List.length_take] at h2
  rw [h2]
  congr 1
  omega
theorem rIndex_h (E : AH) (rb : Nat) (lm : List Lim) (L : List Dec) (hE : StV E rb lm L) (k : List UInt8) : CallA Try.prog 36 #[.pointer (some ⟨rb, 0, none⟩), .string (bs k)] E (fun u_ A_ => u_ = .int .i64 (match posD k L with | some i => (i : Int) | none => -1) ∧ SubA E A_) := by
  refine callA_of_denA ⟨Try.prog, 36, Try.f36, 27, [0, 1, 4, 5], [], [], _⟩ (args := [_, _]) Try.func36 rfl (by kernel_rfl) Try.ntmps36 (by simp) (by kernel_rfl) ?_
  intro ν fr; have nuE := fr.nu
  obtain ⟨ql, qc, cl, cc, lr, hs1, hs, ⟨hu, hamt, hlen, hwa⟩, hlm⟩ := hE.out
  simp (maxDischargeDepth := 16) only [argE_nil, argE_cons, ↓vmD, vmV, vmStd, Nat.reduceMul, ↓reduceIte, Nat.reduceAdd, Nat.reduceSub, Nat.reduceEqDiff, Nat.reduceLT, Nat.reduceLeDiff, reduceCtorEq, Int.reduceToNat, Int.reduceLT, Int.reduceLE, Int.reduceEq, Int.reduceNeg, Int.reduceBEq, Int.reduceBNe, String.reduceEq, forall_const, ↓vmDA, vmVA, ↓vmQA, vmR, vmRA, ↓vmSA, vmSV, tyS, nuE, SubA.skip, SubA.refl, fr.2, areDigits_v, panSum_v, rdigits_v, rsum_v, panLuhn_v, rLuhn_v, panCheck_v, rCheck_v, calIsDate_v, calDay_v, stLim_v, slIndexByte_v, indexByte_v, indexRune_v, containsRune_v, classOf_v, isWordByte_v, letter_v, digit_v, wordAt_v, rword_v, isName_v, risName_v, rIsDate_v, rDay_v, rAmount_v, lr]
  obtain ⟨e, l, he, hd, hle, hn⟩ : ∃ (e : Nat) (l : List Dec), e = 0 ∧ l = L.drop e ∧ e ≤ L.length ∧ ∀ y ∈ L.take e, y.key ≠ k := ⟨0, L, rfl, rfl, by simp, by simp⟩
  rw [show (5, some (Value.int .i64 0)) = (5, some (Value.int .i64 (e : Int))) by rw [he]; rfl]
  clear he nuE fr
  induction l generalizing e with
  | nil =>
    obtain ⟨hn1, hn2⟩ := drop_nil hd hle
    have lt : ((e : Int) < (L.length : Int)) = False := eq_false (by omega)
    have hp : posD k L = none := posD_of_none fun y hy => hn y (by rw [hn2]; exact hy)
    refine LoopA.intro (by kernel_rfl) ?_
    intro ν fr; have nuE := fr.nu
    simp (maxDischargeDepth := 16) only [argE_nil, argE_cons, ↓vmD, vmV, vmStd, Nat.reduceMul, ↓reduceIte, Nat.reduceAdd, Nat.reduceSub, Nat.reduceEqDiff, Nat.reduceLT, Nat.reduceLeDiff, reduceCtorEq, Int.reduceToNat, Int.reduceLT, Int.reduceLE, Int.reduceEq, Int.reduceNeg, Int.reduceBEq, Int.reduceBNe, String.reduceEq, forall_const, ↓vmDA, vmVA, ↓vmQA, vmR, vmRA, ↓vmSA, vmSV, tyS, nuE, SubA.skip, SubA.refl, fr.2, areDigits_v, panSum_v, rdigits_v, rsum_v, panLuhn_v, rLuhn_v, panCheck_v, rCheck_v, calIsDate_v, calDay_v, stLim_v, slIndexByte_v, indexByte_v, indexRune_v, containsRune_v, classOf_v, isWordByte_v, letter_v, digit_v, wordAt_v, rword_v, isName_v, risName_v, rIsDate_v, rDay_v, rAmount_v, lr, lt, hp]
  | cons x l ih =>
    obtain ⟨ha, hlt, hd', htk⟩ := drop_some hd
    have lt : ((e : Int) < (L.length : Int)) = True := eq_true (by omega)
    have we : IntKind.i64.wrap ((e : Int) + 1) = ((e + 1 : Nat) : Int) := by rw [w_i64 (by omega) (by omega)]; omega
    obtain ⟨bk, off, cs, ty, fr0, hp0, hbk, hcr, hcc⟩ := hs.at ha
    subst hp0
    have hc0 : cs[off + e * 9]? = some (.string (bs x.key)) := hcc 0 _ rfl
    have t1 : ((bs x.key).toList = (bs k).toList) = (x.key = k) := by rw [bs_list, bs_list]
    refine LoopA.intro (by kernel_rfl) ?_
    intro ν fr; have nuE := fr.nu
    by_cases hx : x.key = k
    · have hp := posD_drop hd hn hx
      have hxt := eq_true hx
      simp (maxDischargeDepth := 16) only [argE_nil, argE_cons, ↓vmD, vmV, vmStd, Nat.reduceMul, ↓reduceIte, Nat.reduceAdd, Nat.reduceSub, Nat.reduceEqDiff, Nat.reduceLT, Nat.reduceLeDiff, reduceCtorEq, Int.reduceToNat, Int.reduceLT, Int.reduceLE, Int.reduceEq, Int.reduceNeg, Int.reduceBEq, Int.reduceBNe, String.reduceEq, forall_const, ↓vmDA, vmVA, ↓vmQA, vmR, vmRA, ↓vmSA, vmSV, tyS, nuE, SubA.skip, SubA.refl, fr.2, areDigits_v, panSum_v, rdigits_v, rsum_v, panLuhn_v, rLuhn_v, panCheck_v, rCheck_v, calIsDate_v, calDay_v, stLim_v, slIndexByte_v, indexByte_v, indexRune_v, containsRune_v, classOf_v, isWordByte_v, letter_v, digit_v, wordAt_v, rword_v, isName_v, risName_v, rIsDate_v, rDay_v, rAmount_v, lr, lt, hbk, hc0, t1, hxt, hp]
    · simp (maxDischargeDepth := 16) only [argE_nil, argE_cons, ↓vmD, vmV, vmStd, Nat.reduceMul, ↓reduceIte, Nat.reduceAdd, Nat.reduceSub, Nat.reduceEqDiff, Nat.reduceLT, Nat.reduceLeDiff, reduceCtorEq, Int.reduceToNat, Int.reduceLT, Int.reduceLE, Int.reduceEq, Int.reduceNeg, Int.reduceBEq, Int.reduceBNe, String.reduceEq, forall_const, ↓vmDA, vmVA, ↓vmQA, vmR, vmRA, ↓vmSA, vmSV, tyS, nuE, SubA.skip, SubA.refl, fr.2, areDigits_v, panSum_v, rdigits_v, rsum_v, panLuhn_v, rLuhn_v, panCheck_v, rCheck_v, calIsDate_v, calDay_v, stLim_v, slIndexByte_v, indexByte_v, indexRune_v, containsRune_v, classOf_v, isWordByte_v, letter_v, digit_v, wordAt_v, rword_v, isName_v, risName_v, rIsDate_v, rDay_v, rAmount_v, lr, lt, hbk, hc0, t1, hx, we]
      exact LoopA.weak (ih (e + 1) hd' (by omega) (fun y hy => by
        rw [htk] at hy
        rcases List.mem_append.1 hy with h | h
        · exact hn y h
        · simp at h; rw [h]; exact hx)) (by simp only [subE, get_cons, Nat.reduceEqDiff, ↓reduceIte, reduceCtorEq, Nat.reduceAdd, and_self, and_true]) (SubA.refl _)
theorem rIndex_w (E : AH) (rb : Nat) (lm : List Lim) (L : List Dec) (hE : StV E rb lm L) (k : List UInt8) (B_ : AH) (hB_ : SubA E B_) : valA Try.prog 36 #[.pointer (some ⟨rb, 0, none⟩), .string (bs k)] B_ = some (.int .i64 (match posD k L with | some i => (i : Int) | none => -1)) := valA_eq (pureA_at (by kernel_rfl) (rIndex_h E rb lm L hE k) hB_)
theorem rIndex_v (E : AH) (rb : Nat) (lm : List Lim) (L : List Dec) (hE : StV E rb lm L) (k : List UInt8) : valA Try.prog 36 #[.pointer (some ⟨rb, 0, none⟩), .string (bs k)] E = some (.int .i64 (match posD k L with | some i => (i : Int) | none => -1)) := valA_eq (pureA_at (by kernel_rfl) (rIndex_h E rb lm L hE k) (SubA.refl _))
theorem rUsed_h (E : AH) (rb : Nat) (lm : List Lim) (L : List Dec) (hE : StV E rb lm L) (card : List UInt8) (date : Int) : CallA Try.prog 21 #[.pointer (some ⟨rb, 0, none⟩), .string (bs card), .int .i64 date] E (fun u_ A_ => u_ = .tuple #[.int .i64 (sumD card date L), .int .i64 (cntD card date L : Int)] ∧ SubA E A_) := by
  refine callA_of_denA ⟨Try.prog, 21, Try.f21, 57, [0, 1, 2, 6, 7, 8, 9, 10, 11], [], [], _⟩ (args := [_, _, _]) Try.func21 rfl (by kernel_rfl) Try.ntmps21 (by simp) (by kernel_rfl) ?_
  intro ν fr; have nuE := fr.nu
  obtain ⟨ql, qc, cl, cc, lr, hs1, hs, ⟨hu, hamt, hlen, hwa⟩, hlm⟩ := hE.out
  simp (maxDischargeDepth := 16) only [argE_nil, argE_cons, ↓vmD, vmV, vmStd, Nat.reduceMul, ↓reduceIte, Nat.reduceAdd, Nat.reduceSub, Nat.reduceEqDiff, Nat.reduceLT, Nat.reduceLeDiff, reduceCtorEq, Int.reduceToNat, Int.reduceLT, Int.reduceLE, Int.reduceEq, Int.reduceNeg, Int.reduceBEq, Int.reduceBNe, String.reduceEq, forall_const, ↓vmDA, vmVA, ↓vmQA, vmR, vmRA, ↓vmSA, vmSV, tyS, nuE, SubA.skip, SubA.refl, fr.2, areDigits_v, panSum_v, rdigits_v, rsum_v, panLuhn_v, rLuhn_v, panCheck_v, rCheck_v, calIsDate_v, calDay_v, stLim_v, slIndexByte_v, indexByte_v, indexRune_v, containsRune_v, classOf_v, isWordByte_v, letter_v, digit_v, wordAt_v, rword_v, isName_v, risName_v, rIsDate_v, rDay_v, rAmount_v, lr]
  obtain ⟨e, l, s, c, he, hs0, hc0, hd, hle, hsum, hcnt⟩ : ∃ (e : Nat) (l : List Dec) (s : Int) (c : Nat), e = 0 ∧ s = 0 ∧ c = 0 ∧ l = L.drop e ∧ e ≤ L.length ∧ s = sumD card date (L.take e) ∧ c = cntD card date (L.take e) :=
    ⟨0, L, 0, 0, rfl, rfl, rfl, rfl, by simp, rfl, rfl⟩
  rw [show (10, some (Value.int .i64 0)) = (10, some (Value.int .i64 (e : Int))) by rw [he]; rfl]
  rw [show (8, some (Value.int .i64 0)) = (8, some (Value.int .i64 s)) by rw [hs0]]
  rw [show (9, some (Value.int .i64 0)) = (9, some (Value.int .i64 (c : Int))) by rw [hc0]; rfl]
  clear he hs0 hc0 nuE fr
  induction l generalizing e s c with
  | nil =>
    obtain ⟨hn1, hn2⟩ := drop_nil hd hle
    rw [hn2] at hsum hcnt
    have lt : ((e : Int) < (L.length : Int)) = False := eq_false (by omega)
    refine LoopA.intro (by kernel_rfl) ?_
    intro ν fr; have nuE := fr.nu
    simp (maxDischargeDepth := 16) only [argE_nil, argE_cons, ↓vmD, vmV, vmStd, Nat.reduceMul, ↓reduceIte, Nat.reduceAdd, Nat.reduceSub, Nat.reduceEqDiff, Nat.reduceLT, Nat.reduceLeDiff, reduceCtorEq, Int.reduceToNat, Int.reduceLT, Int.reduceLE, Int.reduceEq, Int.reduceNeg, Int.reduceBEq, Int.reduceBNe, String.reduceEq, forall_const, ↓vmDA, vmVA, ↓vmQA, vmR, vmRA, ↓vmSA, vmSV, tyS, nuE, SubA.skip, SubA.refl, fr.2, areDigits_v, panSum_v, rdigits_v, rsum_v, panLuhn_v, rLuhn_v, panCheck_v, rCheck_v, calIsDate_v, calDay_v, stLim_v, slIndexByte_v, indexByte_v, indexRune_v, containsRune_v, classOf_v, isWordByte_v, letter_v, digit_v, wordAt_v, rword_v, isName_v, risName_v, rIsDate_v, rDay_v, rAmount_v, lr, lt, hsum, hcnt]
  | cons d l ih =>
    obtain ⟨ha, hlt, hd', htk⟩ := drop_some hd
    have lt : ((e : Int) < (L.length : Int)) = True := eq_true (by omega)
    have we : IntKind.i64.wrap ((e : Int) + 1) = ((e + 1 : Nat) : Int) := by rw [w_i64 (by omega) (by omega)]; omega
    obtain ⟨bk, off, cs, ty, fr0, hp0, hbk, hcr, hcc⟩ := hs.at ha
    subst hp0
    have hs1' : sumD card date (L.take (e + 1)) = s + (if usedB card date d = true then d.amt else 0) := by rw [htk, sumD_app, ← hsum]; simp [sumD]
    have hc1' : cntD card date (L.take (e + 1)) = c + (if usedB card date d = true then 1 else 0) := by rw [htk, cntD_app, ← hcnt]; simp [cntD]
    have hdm := hamt d (List.mem_of_getElem? ha)
    have b1 : AmtOk (L.take e) := fun y hy => hamt y (List.mem_of_mem_take hy)
    have b2 := sumD_le card date _ b1
    have b3 := cntD_le card date (L.take e)
    rw [← hsum, List.length_take] at b2
    rw [← hcnt, List.length_take] at b3
    have ws : IntKind.i64.wrap (s + d.amt) = s + d.amt := w_i64 (by omega) (by omega)
    have wc : IntKind.i64.wrap ((c : Int) + 1) = ((c + 1 : Nat) : Int) := by rw [w_i64 (by omega) (by omega)]; omega
    have t1 : ((bs d.card).toList = (bs card).toList) = (d.card = card) := by rw [bs_list, bs_list]
    refine LoopA.intro (by kernel_rfl) ?_
    intro ν fr; have nuE := fr.nu
    have nbk := fr.ne (b := bk) (by rw [hbk]; simp)
    have nrb := fr.ne (b := rb) (by rw [lr]; simp)
    have no : usedB card date d = false → _ := fun hu => ih (e + 1) s c hd' (by omega) (by rw [hs1', hu]; simp) (by rw [hc1', hu]; simp)
    cases a3 : d.app with
    | false =>
      simp (maxDischargeDepth := 16) only [argE_nil, argE_cons, ↓vmD, vmV, vmStd, Nat.reduceMul, ↓reduceIte, Nat.reduceAdd, Nat.reduceSub, Nat.reduceEqDiff, Nat.reduceLT, Nat.reduceLeDiff, reduceCtorEq, Int.reduceToNat, Int.reduceLT, Int.reduceLE, Int.reduceEq, Int.reduceNeg, Int.reduceBEq, Int.reduceBNe, String.reduceEq, forall_const, ↓vmDA, vmVA, ↓vmQA, vmR, vmRA, ↓vmSA, vmSV, tyS, nuE, SubA.skip, SubA.refl, fr.2, areDigits_v, panSum_v, rdigits_v, rsum_v, panLuhn_v, rLuhn_v, panCheck_v, rCheck_v, calIsDate_v, calDay_v, stLim_v, slIndexByte_v, indexByte_v, indexRune_v, containsRune_v, classOf_v, isWordByte_v, letter_v, digit_v, wordAt_v, rword_v, isName_v, risName_v, rIsDate_v, rDay_v, rAmount_v, lr, lt, hbk, hcr, choC, nbk, nrb, t1, a3, we]
      exact LoopA.weak (no (by simp [usedB, a3])) (by simp only [subE, get_cons, Nat.reduceEqDiff, ↓reduceIte, reduceCtorEq, Nat.reduceAdd, and_self, and_true]) (by (repeat (first | exact SubA.refl _ | refine SubA.skip (fr.2 _) ?_)))
    | true =>
    cases a4 : d.rev with
    | true =>
      simp (maxDischargeDepth := 16) only [argE_nil, argE_cons, ↓vmD, vmV, vmStd, Nat.reduceMul, ↓reduceIte, Nat.reduceAdd, Nat.reduceSub, Nat.reduceEqDiff, Nat.reduceLT, Nat.reduceLeDiff, reduceCtorEq, Int.reduceToNat, Int.reduceLT, Int.reduceLE, Int.reduceEq, Int.reduceNeg, Int.reduceBEq, Int.reduceBNe, String.reduceEq, forall_const, ↓vmDA, vmVA, ↓vmQA, vmR, vmRA, ↓vmSA, vmSV, tyS, nuE, SubA.skip, SubA.refl, fr.2, areDigits_v, panSum_v, rdigits_v, rsum_v, panLuhn_v, rLuhn_v, panCheck_v, rCheck_v, calIsDate_v, calDay_v, stLim_v, slIndexByte_v, indexByte_v, indexRune_v, containsRune_v, classOf_v, isWordByte_v, letter_v, digit_v, wordAt_v, rword_v, isName_v, risName_v, rIsDate_v, rDay_v, rAmount_v, lr, lt, hbk, hcr, choC, nbk, nrb, t1, a3, a4, we]
      exact LoopA.weak (no (by simp [usedB, a3, a4])) (by simp only [subE, get_cons, Nat.reduceEqDiff, ↓reduceIte, reduceCtorEq, Nat.reduceAdd, and_self, and_true]) (by (repeat (first | exact SubA.refl _ | refine SubA.skip (fr.2 _) ?_)))
    | false =>
    by_cases a1 : d.card = card
    · have a1t := eq_true a1
      by_cases a2 : d.date = date
      · have a2t := eq_true a2
        have hu : usedB card date d = true := by simp [usedB, a1, a2, a3, a4]
        simp (maxDischargeDepth := 16) only [argE_nil, argE_cons, ↓vmD, vmV, vmStd, Nat.reduceMul, ↓reduceIte, Nat.reduceAdd, Nat.reduceSub, Nat.reduceEqDiff, Nat.reduceLT, Nat.reduceLeDiff, reduceCtorEq, Int.reduceToNat, Int.reduceLT, Int.reduceLE, Int.reduceEq, Int.reduceNeg, Int.reduceBEq, Int.reduceBNe, String.reduceEq, forall_const, ↓vmDA, vmVA, ↓vmQA, vmR, vmRA, ↓vmSA, vmSV, tyS, nuE, SubA.skip, SubA.refl, fr.2, areDigits_v, panSum_v, rdigits_v, rsum_v, panLuhn_v, rLuhn_v, panCheck_v, rCheck_v, calIsDate_v, calDay_v, stLim_v, slIndexByte_v, indexByte_v, indexRune_v, containsRune_v, classOf_v, isWordByte_v, letter_v, digit_v, wordAt_v, rword_v, isName_v, risName_v, rIsDate_v, rDay_v, rAmount_v, lr, lt, hbk, hcr, choC, nbk, nrb, t1, a1t, a2t, a3, a4, we, ws, wc]
        exact LoopA.weak (ih (e + 1) (s + d.amt) (c + 1) hd' (by omega) (by rw [hs1', hu]; simp) (by rw [hc1', hu]; simp)) (by simp only [subE, get_cons, Nat.reduceEqDiff, ↓reduceIte, reduceCtorEq, Nat.reduceAdd, and_self, and_true]) (by (repeat (first | exact SubA.refl _ | refine SubA.skip (fr.2 _) ?_)))
      · simp (maxDischargeDepth := 16) only [argE_nil, argE_cons, ↓vmD, vmV, vmStd, Nat.reduceMul, ↓reduceIte, Nat.reduceAdd, Nat.reduceSub, Nat.reduceEqDiff, Nat.reduceLT, Nat.reduceLeDiff, reduceCtorEq, Int.reduceToNat, Int.reduceLT, Int.reduceLE, Int.reduceEq, Int.reduceNeg, Int.reduceBEq, Int.reduceBNe, String.reduceEq, forall_const, ↓vmDA, vmVA, ↓vmQA, vmR, vmRA, ↓vmSA, vmSV, tyS, nuE, SubA.skip, SubA.refl, fr.2, areDigits_v, panSum_v, rdigits_v, rsum_v, panLuhn_v, rLuhn_v, panCheck_v, rCheck_v, calIsDate_v, calDay_v, stLim_v, slIndexByte_v, indexByte_v, indexRune_v, containsRune_v, classOf_v, isWordByte_v, letter_v, digit_v, wordAt_v, rword_v, isName_v, risName_v, rIsDate_v, rDay_v, rAmount_v, lr, lt, hbk, hcr, choC, nbk, nrb, t1, a1t, a2, a3, a4, we]
        exact LoopA.weak (no (by simp [usedB, a2])) (by simp only [subE, get_cons, Nat.reduceEqDiff, ↓reduceIte, reduceCtorEq, Nat.reduceAdd, and_self, and_true]) (by (repeat (first | exact SubA.refl _ | refine SubA.skip (fr.2 _) ?_)))
    · simp (maxDischargeDepth := 16) only [argE_nil, argE_cons, ↓vmD, vmV, vmStd, Nat.reduceMul, ↓reduceIte, Nat.reduceAdd, Nat.reduceSub, Nat.reduceEqDiff, Nat.reduceLT, Nat.reduceLeDiff, reduceCtorEq, Int.reduceToNat, Int.reduceLT, Int.reduceLE, Int.reduceEq, Int.reduceNeg, Int.reduceBEq, Int.reduceBNe, String.reduceEq, forall_const, ↓vmDA, vmVA, ↓vmQA, vmR, vmRA, ↓vmSA, vmSV, tyS, nuE, SubA.skip, SubA.refl, fr.2, areDigits_v, panSum_v, rdigits_v, rsum_v, panLuhn_v, rLuhn_v, panCheck_v, rCheck_v, calIsDate_v, calDay_v, stLim_v, slIndexByte_v, indexByte_v, indexRune_v, containsRune_v, classOf_v, isWordByte_v, letter_v, digit_v, wordAt_v, rword_v, isName_v, risName_v, rIsDate_v, rDay_v, rAmount_v, lr, lt, hbk, hcr, choC, nbk, nrb, t1, a1, a3, a4, we]
      exact LoopA.weak (no (by simp [usedB, a1])) (by simp only [subE, get_cons, Nat.reduceEqDiff, ↓reduceIte, reduceCtorEq, Nat.reduceAdd, and_self, and_true]) (by (repeat (first | exact SubA.refl _ | refine SubA.skip (fr.2 _) ?_)))
theorem rUsed_w (E : AH) (rb : Nat) (lm : List Lim) (L : List Dec) (hE : StV E rb lm L) (card : List UInt8) (date : Int) (B_ : AH) (hB_ : SubA E B_) : valA Try.prog 21 #[.pointer (some ⟨rb, 0, none⟩), .string (bs card), .int .i64 date] B_ = some (.tuple #[.int .i64 (sumD card date L), .int .i64 (cntD card date L : Int)]) := valA_eq (pureA_at (by kernel_rfl) (rUsed_h E rb lm L hE card date) hB_)
theorem rUsed_v (E : AH) (rb : Nat) (lm : List Lim) (L : List Dec) (hE : StV E rb lm L) (card : List UInt8) (date : Int) : valA Try.prog 21 #[.pointer (some ⟨rb, 0, none⟩), .string (bs card), .int .i64 date] E = some (.tuple #[.int .i64 (sumD card date L), .int .i64 (cntD card date L : Int)]) := valA_eq (pureA_at (by kernel_rfl) (rUsed_h E rb lm L hE card date) (SubA.refl _))
theorem rDecision_h (E : AH) (rb : Nat) (lm : List Lim) (L : List Dec) (hE : StV E rb lm L) (k : List UInt8) : CallA Try.prog 19 #[.pointer (some ⟨rb, 0, none⟩), .string (bs k)] E (fun u_ A_ => u_ = getX k L ∧ SubA E A_) := by
  refine callA_of_denA ⟨Try.prog, 19, Try.f19, 20, [0, 1, 4, 5, 6], [], [], _⟩ (args := [_, _]) Try.func19 rfl (by kernel_rfl) Try.ntmps19 (by simp) (by kernel_rfl) ?_
  intro ν fr; have nuE := fr.nu
  have fn := rIndex_v E rb lm L hE k
  obtain ⟨ql, qc, cl, cc, lr, hs1, hs, _, hlm⟩ := hE.out
  cases hp : posD k L with
  | none =>
    simp only [hp] at fn
    have e : getX k L = .tuple #[.bool false, .bool false] := by unfold getX; rw [hp]
    simp (maxDischargeDepth := 16) only [argE_nil, argE_cons, ↓vmD, vmV, vmStd, Nat.reduceMul, ↓reduceIte, Nat.reduceAdd, Nat.reduceSub, Nat.reduceEqDiff, Nat.reduceLT, Nat.reduceLeDiff, reduceCtorEq, Int.reduceToNat, Int.reduceLT, Int.reduceLE, Int.reduceEq, Int.reduceNeg, Int.reduceBEq, Int.reduceBNe, String.reduceEq, forall_const, ↓vmDA, vmVA, ↓vmQA, vmR, vmRA, ↓vmSA, vmSV, tyS, nuE, SubA.skip, SubA.refl, fr.2, areDigits_v, panSum_v, rdigits_v, rsum_v, panLuhn_v, rLuhn_v, panCheck_v, rCheck_v, calIsDate_v, calDay_v, stLim_v, slIndexByte_v, indexByte_v, indexRune_v, containsRune_v, classOf_v, isWordByte_v, letter_v, digit_v, wordAt_v, rword_v, isName_v, risName_v, rIsDate_v, rDay_v, rAmount_v, fn, e]
  | some i =>
    simp only [hp] at fn
    obtain ⟨d, hd, hk⟩ := posD_some hp
    have hlt := (List.getElem?_eq_some_iff.1 hd).1
    have e : getX k L = .tuple #[.bool d.app, .bool true] := by unfold getX; simp only [hp, hd]
    obtain ⟨bk, off, cs, ty, fr0, hp0, hbk, hcr, hcc⟩ := hs.at hd
    subst hp0
    have c3 : ((i : Int) < 0) = False := eq_false (by omega)
    have c4 : ((i : Int) < (L.length : Int)) = True := eq_true (by omega)
    have c6 := hcc 6 _ rfl
    simp (maxDischargeDepth := 16) only [argE_nil, argE_cons, ↓vmD, vmV, vmStd, Nat.reduceMul, ↓reduceIte, Nat.reduceAdd, Nat.reduceSub, Nat.reduceEqDiff, Nat.reduceLT, Nat.reduceLeDiff, reduceCtorEq, Int.reduceToNat, Int.reduceLT, Int.reduceLE, Int.reduceEq, Int.reduceNeg, Int.reduceBEq, Int.reduceBNe, String.reduceEq, forall_const, ↓vmDA, vmVA, ↓vmQA, vmR, vmRA, ↓vmSA, vmSV, tyS, nuE, SubA.skip, SubA.refl, fr.2, areDigits_v, panSum_v, rdigits_v, rsum_v, panLuhn_v, rLuhn_v, panCheck_v, rCheck_v, calIsDate_v, calDay_v, stLim_v, slIndexByte_v, indexByte_v, indexRune_v, containsRune_v, classOf_v, isWordByte_v, letter_v, digit_v, wordAt_v, rword_v, isName_v, risName_v, rIsDate_v, rDay_v, rAmount_v, fn, c3, c4, lr, hbk, c6, e]
theorem rDecision_w (E : AH) (rb : Nat) (lm : List Lim) (L : List Dec) (hE : StV E rb lm L) (k : List UInt8) (B_ : AH) (hB_ : SubA E B_) : valA Try.prog 19 #[.pointer (some ⟨rb, 0, none⟩), .string (bs k)] B_ = some (getX k L) := valA_eq (pureA_at (by kernel_rfl) (rDecision_h E rb lm L hE k) hB_)
theorem rDecision_v (E : AH) (rb : Nat) (lm : List Lim) (L : List Dec) (hE : StV E rb lm L) (k : List UInt8) : valA Try.prog 19 #[.pointer (some ⟨rb, 0, none⟩), .string (bs k)] E = some (getX k L) := valA_eq (pureA_at (by kernel_rfl) (rDecision_h E rb lm L hE k) (SubA.refl _))
theorem rMay_h (E : AH) (rb : Nat) (lm : List Lim) (L : List Dec) (hE : StV E rb lm L) (key iss card : List UInt8) (amt at_ date : Int) (ham : 1 ≤ amt ∧ amt ≤ 999999999999) : CallA Try.prog 37 #[.pointer (some ⟨rb, 0, none⟩), .agg #[.string (bs key), .string (bs iss), .string (bs card), .int .i64 amt, .int .i64 at_], .int .i64 date] E (fun u_ A_ => u_ = .bool (permD lm L iss card amt date) ∧ SubA E A_) := by
  refine callA_of_denA ⟨Try.prog, 37, Try.f37, 77, [0, 1, 2, 4, 6, 7, 8, 9], [], [(5, .q false), (6, .q false)], _⟩ (args := [_, _, _]) Try.func37 rfl (by kernel_rfl) Try.ntmps37 (by simp) (by kernel_rfl) ?_
  intro ν fr; have nuE := fr.nu
  obtain ⟨ql, qc, cl, cc, lr, hs, hs1, ⟨hu, hamt, hlen, hwa⟩, hlm⟩ := hE.out
  have f0 := fr.2 0
  have uv := rUsed_w E rb lm L hE card date _ (SubA.fresh (o := (Obj.cells #[.string (bs key), .string (bs iss), .string (bs card), .int .i64 amt, .int .i64 at_] 89)) f0 (SubA.refl _))
  have hsum := sumD_le card date _ hamt
  have hcnt := cntD_le card date L
  have ws : IntKind.i64.wrap (sumD card date L + amt) = sumD card date L + amt := w_i64 (by omega) (by omega)
  have wc : IntKind.i64.wrap ((cntD card date L : Int) + 1) = (cntD card date L : Int) + 1 := w_i64 (by omega) (by omega)
  have nrb := fr.ne (b := rb) (by rw [lr]; simp)
  simp (maxDischargeDepth := 16) only [argE_nil, argE_cons, ↓vmD, vmV, vmStd, Nat.reduceMul, ↓reduceIte, Nat.reduceAdd, Nat.reduceSub, Nat.reduceEqDiff, Nat.reduceLT, Nat.reduceLeDiff, reduceCtorEq, Int.reduceToNat, Int.reduceLT, Int.reduceLE, Int.reduceEq, Int.reduceNeg, Int.reduceBEq, Int.reduceBNe, String.reduceEq, forall_const, ↓vmDA, vmVA, ↓vmQA, vmR, vmRA, ↓vmSA, vmSV, tyS, nuE, SubA.skip, SubA.refl, fr.2, areDigits_v, panSum_v, rdigits_v, rsum_v, panLuhn_v, rLuhn_v, panCheck_v, rCheck_v, calIsDate_v, calDay_v, stLim_v, slIndexByte_v, indexByte_v, indexRune_v, containsRune_v, classOf_v, isWordByte_v, letter_v, digit_v, wordAt_v, rword_v, isName_v, risName_v, rIsDate_v, rDay_v, rAmount_v, uv]
  generalize ν 0 = n at *
  obtain ⟨e, l, he, hd, hle, hn⟩ : ∃ (e : Nat) (l : List Lim), e = 0 ∧ l = lm.drop e ∧ e ≤ lm.length ∧ limF iss lm = limF iss l := ⟨0, lm, rfl, rfl, by simp, rfl⟩
  rw [show (9, some (Value.int .i64 0)) = (9, some (Value.int .i64 (e : Int))) by rw [he]; rfl]
  have nnb : ((n = rb) = False) ∧ ((rb = n) = False) := look_ne f0 lr
  have sE : SubA E ((n, (Obj.cells #[.string (bs key), .string (bs iss), .string (bs card), .int .i64 amt, .int .i64 at_] 89)) :: E) := SubA.fresh f0 (SubA.refl _)
  clear he nuE fr
  induction l generalizing e with
  | nil =>
    obtain ⟨hn1, hn2⟩ := drop_nil hd hle
    have lt : ((e : Int) < (lm.length : Int)) = False := eq_false (by omega)
    have hp : permD lm L iss card amt date = false := permD_none hn
    refine LoopA.intro (by kernel_rfl) ?_
    intro ν fr; have nuE := fr.nu
    simp (maxDischargeDepth := 16) only [argE_nil, argE_cons, ↓vmD, vmV, vmStd, Nat.reduceMul, ↓reduceIte, Nat.reduceAdd, Nat.reduceSub, Nat.reduceEqDiff, Nat.reduceLT, Nat.reduceLeDiff, reduceCtorEq, Int.reduceToNat, Int.reduceLT, Int.reduceLE, Int.reduceEq, Int.reduceNeg, Int.reduceBEq, Int.reduceBNe, String.reduceEq, forall_const, ↓vmDA, vmVA, ↓vmQA, vmR, vmRA, ↓vmSA, vmSV, tyS, nuE, SubA.skip, SubA.refl, fr.2, areDigits_v, panSum_v, rdigits_v, rsum_v, panLuhn_v, rLuhn_v, panCheck_v, rCheck_v, calIsDate_v, calDay_v, stLim_v, slIndexByte_v, indexByte_v, indexRune_v, containsRune_v, classOf_v, isWordByte_v, letter_v, digit_v, wordAt_v, rword_v, isName_v, risName_v, rIsDate_v, rDay_v, rAmount_v, nnb, lr, lt, hp]
    exact sE
  | cons x l ih =>
    obtain ⟨ha, hlt, hd', htk⟩ := drop_some hd
    have lt : ((e : Int) < (lm.length : Int)) = True := eq_true (by omega)
    have we : IntKind.i64.wrap ((e : Int) + 1) = ((e + 1 : Nat) : Int) := by rw [w_i64 (by omega) (by omega)]; omega
    obtain ⟨bk, off, cs, ty, fr0, hp0, hbk, hcr, hcc⟩ := hs.at ha
    subst hp0
    have nbk := look_ne f0 hbk
    have c0 : cs[off + e * 4]? = some (.string (bs x.iss)) := hcc 0 _ rfl
    have c1 := hcc 1 _ rfl
    have c2 := hcc 2 _ rfl
    have c3 := hcc 3 _ rfl
    have t1 : ((bs x.iss).toList = (bs iss).toList) = (x.iss = iss) := by rw [bs_list, bs_list]
    refine LoopA.intro (by kernel_rfl) ?_
    intro ν fr; have nuE := fr.nu
    by_cases hx : x.iss = iss
    · have hxt := eq_true hx
      have hp : permD lm L iss card amt date = (decide (amt ≤ x.each) && (decide (sumD card date L + amt ≤ x.day) && decide ((cntD card date L : Int) + 1 ≤ x.cnt))) := by
        unfold permD; rw [hn]; simp only [limF, hx, if_true]
      simp (maxDischargeDepth := 16) only [argE_nil, argE_cons, ↓vmD, vmV, vmStd, Nat.reduceMul, ↓reduceIte, Nat.reduceAdd, Nat.reduceSub, Nat.reduceEqDiff, Nat.reduceLT, Nat.reduceLeDiff, reduceCtorEq, Int.reduceToNat, Int.reduceLT, Int.reduceLE, Int.reduceEq, Int.reduceNeg, Int.reduceBEq, Int.reduceBNe, String.reduceEq, forall_const, ↓vmDA, vmVA, ↓vmQA, vmR, vmRA, ↓vmSA, vmSV, tyS, nuE, SubA.skip, SubA.refl, fr.2, areDigits_v, panSum_v, rdigits_v, rsum_v, panLuhn_v, rLuhn_v, panCheck_v, rCheck_v, calIsDate_v, calDay_v, stLim_v, slIndexByte_v, indexByte_v, indexRune_v, containsRune_v, classOf_v, isWordByte_v, letter_v, digit_v, wordAt_v, rword_v, isName_v, risName_v, rIsDate_v, rDay_v, rAmount_v, nnb, nbk, lr, lt, hbk, c0, c1, c2, c3, t1, hxt, ws, wc, hp]
      by_cases b1 : amt ≤ x.each <;> by_cases b2 : sumD card date L + amt ≤ x.day <;> simp [b1, b2, sE]
    · simp (maxDischargeDepth := 16) only [argE_nil, argE_cons, ↓vmD, vmV, vmStd, Nat.reduceMul, ↓reduceIte, Nat.reduceAdd, Nat.reduceSub, Nat.reduceEqDiff, Nat.reduceLT, Nat.reduceLeDiff, reduceCtorEq, Int.reduceToNat, Int.reduceLT, Int.reduceLE, Int.reduceEq, Int.reduceNeg, Int.reduceBEq, Int.reduceBNe, String.reduceEq, forall_const, ↓vmDA, vmVA, ↓vmQA, vmR, vmRA, ↓vmSA, vmSV, tyS, nuE, SubA.skip, SubA.refl, fr.2, areDigits_v, panSum_v, rdigits_v, rsum_v, panLuhn_v, rLuhn_v, panCheck_v, rCheck_v, calIsDate_v, calDay_v, stLim_v, slIndexByte_v, indexByte_v, indexRune_v, containsRune_v, classOf_v, isWordByte_v, letter_v, digit_v, wordAt_v, rword_v, isName_v, risName_v, rIsDate_v, rDay_v, rAmount_v, nnb, nbk, lr, lt, hbk, c0, t1, hx, we]
      exact LoopA.weak (ih (e + 1) hd' (by omega) (by rw [hn]; simp only [limF, hx, if_false])) (by simp only [subE, get_cons, Nat.reduceEqDiff, ↓reduceIte, reduceCtorEq, Nat.reduceAdd, and_self, and_true]) (SubA.refl _)
theorem rMay_w (E : AH) (rb : Nat) (lm : List Lim) (L : List Dec) (hE : StV E rb lm L) (key iss card : List UInt8) (amt at_ date : Int) (ham : 1 ≤ amt ∧ amt ≤ 999999999999) (B_ : AH) (hB_ : SubA E B_) : valA Try.prog 37 #[.pointer (some ⟨rb, 0, none⟩), .agg #[.string (bs key), .string (bs iss), .string (bs card), .int .i64 amt, .int .i64 at_], .int .i64 date] B_ = some (.bool (permD lm L iss card amt date)) := valA_eq (pureA_at (by kernel_rfl) (rMay_h E rb lm L hE key iss card amt at_ date ham) hB_)
theorem rMay_v (E : AH) (rb : Nat) (lm : List Lim) (L : List Dec) (hE : StV E rb lm L) (key iss card : List UInt8) (amt at_ date : Int) (ham : 1 ≤ amt ∧ amt ≤ 999999999999) : valA Try.prog 37 #[.pointer (some ⟨rb, 0, none⟩), .agg #[.string (bs key), .string (bs iss), .string (bs card), .int .i64 amt, .int .i64 at_], .int .i64 date] E = some (.bool (permD lm L iss card amt date)) := valA_eq (pureA_at (by kernel_rfl) (rMay_h E rb lm L hE key iss card amt at_ date ham) (SubA.refl _))
theorem sc_radv (a b c : ByteArray) (d e : Int) : sliceCells Try.prog 47 1 [(0, .agg #[.string a, .string b, .string c, .int .i64 d, .int .i64 e])] = some (89, #[.string a, .string b, .string c, .int .i64 d, .int .i64 e]) := by kernel_rfl
theorem radv_app {v' : Value} {B' : AH} {T : List Dec} {t : Dec} (ho' : OwnZ 89 5 v' B' (T.length + 1) (T.flatMap advC ++ advC t)) : OwnL advC 5 89 v' B' (T ++ [t]) := by
  unfold OwnL
  rw [List.length_append, List.flatMap_append]
  simpa using ho'
theorem rWaiting_h (E : AH) (rb : Nat) (lm : List Lim) (L : List Dec) (hE : StV E rb lm L) (iss : List UInt8) : CallA Try.prog 24 #[.pointer (some ⟨rb, 0, none⟩), .string (bs iss)] E (fun u_ A_ => ∃ v B, u_ = v ∧ OwnL advC 5 89 v B (waitL iss L) ∧ Dis B E ∧ SubA (B ++ E) A_) := by
  refine callA_of_denA ⟨Try.prog, 24, Try.f24, 49, [0, 1, 4, 5, 6], [], [], _⟩ (args := [_, _]) Try.func24 rfl (by kernel_rfl) Try.ntmps24 (by simp) (by kernel_rfl) ?_
  intro ν fr; have nuE := fr.nu
  obtain ⟨ql, qc, cl, cc, lr, hs1, hs, ⟨hu, hamt, hlen, hwa⟩, hlm⟩ := hE.out
  simp (maxDischargeDepth := 16) only [argE_nil, argE_cons, ↓vmD, vmV, vmStd, Nat.reduceMul, ↓reduceIte, Nat.reduceAdd, Nat.reduceSub, Nat.reduceEqDiff, Nat.reduceLT, Nat.reduceLeDiff, reduceCtorEq, Int.reduceToNat, Int.reduceLT, Int.reduceLE, Int.reduceEq, Int.reduceNeg, Int.reduceBEq, Int.reduceBNe, String.reduceEq, forall_const, ↓vmDA, vmVA, ↓vmQA, vmR, vmRA, ↓vmSA, vmSV, tyS, nuE, SubA.skip, SubA.refl, fr.2, areDigits_v, panSum_v, rdigits_v, rsum_v, panLuhn_v, rLuhn_v, panCheck_v, rCheck_v, calIsDate_v, calDay_v, stLim_v, slIndexByte_v, indexByte_v, indexRune_v, containsRune_v, classOf_v, isWordByte_v, letter_v, digit_v, wordAt_v, rword_v, isName_v, risName_v, rIsDate_v, rDay_v, rAmount_v, lr]
  obtain ⟨e, l, v, B, he, hv, hB, hd, hle, ho, d⟩ : ∃ (e : Nat) (l : List Dec) (v : Value) (B : AH), e = 0 ∧ v = .slice none 0 0 ∧ B = [] ∧ l = L.drop e ∧ e ≤ L.length ∧ OwnL advC 5 89 v B (waitL iss (L.take e)) ∧ Dis B E :=
    ⟨0, L, _, [], rfl, rfl, rfl, rfl, by simp, OwnL.nil _ _ _, Dis.nil _⟩
  rw [show (6, some (Value.int .i64 0)) = (6, some (Value.int .i64 (e : Int))) by rw [he]; rfl]
  rw [show (5, some (Value.slice none 0 0)) = (5, some v) by rw [hv]]
  refine LoopA.at (A := B ++ E) (by subst hB; exact SubA.refl _) ?_
  clear he hv hB nuE fr
  induction l generalizing e v B with
  | nil =>
    obtain ⟨hn1, hn2⟩ := drop_nil hd hle
    have lt : ((e : Int) < (L.length : Int)) = False := eq_false (by omega)
    rw [hn2] at ho
    refine LoopA.intro (by kernel_rfl) ?_
    intro ν fr; have nuE := fr.nu
    simp (maxDischargeDepth := 16) only [argE_nil, argE_cons, ↓vmD, vmV, vmStd, Nat.reduceMul, ↓reduceIte, Nat.reduceAdd, Nat.reduceSub, Nat.reduceEqDiff, Nat.reduceLT, Nat.reduceLeDiff, reduceCtorEq, Int.reduceToNat, Int.reduceLT, Int.reduceLE, Int.reduceEq, Int.reduceNeg, Int.reduceBEq, Int.reduceBNe, String.reduceEq, forall_const, ↓vmDA, vmVA, ↓vmQA, vmR, vmRA, ↓vmSA, vmSV, tyS, nuE, SubA.skip, SubA.refl, fr.2, areDigits_v, panSum_v, rdigits_v, rsum_v, panLuhn_v, rLuhn_v, panCheck_v, rCheck_v, calIsDate_v, calDay_v, stLim_v, slIndexByte_v, indexByte_v, indexRune_v, containsRune_v, classOf_v, isWordByte_v, letter_v, digit_v, wordAt_v, rword_v, isName_v, risName_v, rIsDate_v, rDay_v, rAmount_v, d.right _ _ lr, lt]
    exact ⟨_, B, rfl, ho, d, SubA.refl _⟩
  | cons x l ih =>
    obtain ⟨ha, hlt, hd', htk⟩ := drop_some hd
    have lt : ((e : Int) < (L.length : Int)) = True := eq_true (by omega)
    have we : IntKind.i64.wrap ((e : Int) + 1) = ((e + 1 : Nat) : Int) := by rw [w_i64 (by omega) (by omega)]; omega
    obtain ⟨bk, off, cs, ty, fr0, hp0, hbk, hcr, hcc⟩ := hs.at ha
    subst hp0
    have lbk := d.right _ _ hbk
    have lr2 := d.right _ _ lr
    have c1 := hcc 1 _ rfl
    have c8 := hcc 8 _ rfl
    have hrd := rdCS_sub (k := 0) (n := 5) hcr (by decide)
    rw [Nat.add_zero, show (List.drop 0 (choC x)).take 5 = advC x from rfl] at hrd
    have t1 : ((bs x.iss).toList = (bs iss).toList) = (x.iss = iss) := by rw [bs_list, bs_list]
    have hst := waitL_step (iss := iss) ha
    refine LoopA.intro (by kernel_rfl) ?_
    intro ν fr; have nuE := fr.nu
    cases a2 : x.wai with
    | false =>
      rw [if_neg (fun h => by rw [a2] at h; cases h.2), List.append_nil] at hst
      simp (maxDischargeDepth := 16) only [argE_nil, argE_cons, ↓vmD, vmV, vmStd, Nat.reduceMul, ↓reduceIte, Nat.reduceAdd, Nat.reduceSub, Nat.reduceEqDiff, Nat.reduceLT, Nat.reduceLeDiff, reduceCtorEq, Int.reduceToNat, Int.reduceLT, Int.reduceLE, Int.reduceEq, Int.reduceNeg, Int.reduceBEq, Int.reduceBNe, String.reduceEq, forall_const, ↓vmDA, vmVA, ↓vmQA, vmR, vmRA, ↓vmSA, vmSV, tyS, nuE, SubA.skip, SubA.refl, fr.2, areDigits_v, panSum_v, rdigits_v, rsum_v, panLuhn_v, rLuhn_v, panCheck_v, rCheck_v, calIsDate_v, calDay_v, stLim_v, slIndexByte_v, indexByte_v, indexRune_v, containsRune_v, classOf_v, isWordByte_v, letter_v, digit_v, wordAt_v, rword_v, isName_v, risName_v, rIsDate_v, rDay_v, rAmount_v, lr2, lt, lbk, c1, c8, a2, we]
      exact LoopA.weak (ih (e + 1) v B hd' (by omega) (by rw [hst]; exact ho) d) (by simp only [subE, get_cons, Nat.reduceEqDiff, ↓reduceIte, reduceCtorEq, Nat.reduceAdd, and_self, and_true]) (SubA.refl _)
    | true =>
    by_cases a1 : x.iss = iss
    · have a1t := eq_true a1
      rw [if_pos ⟨a1, a2⟩] at hst
      have b1 := waitL_len (L.take e) iss
      rw [List.length_take] at b1
      obtain ⟨q2, vcap, rfl, hvc, hvs⟩ := ho.read advC_len
      simp (maxDischargeDepth := 16) only [argE_nil, argE_cons, ↓vmD, vmV, vmStd, Nat.reduceMul, ↓reduceIte, Nat.reduceAdd, Nat.reduceSub, Nat.reduceEqDiff, Nat.reduceLT, Nat.reduceLeDiff, reduceCtorEq, Int.reduceToNat, Int.reduceLT, Int.reduceLE, Int.reduceEq, Int.reduceNeg, Int.reduceBEq, Int.reduceBNe, String.reduceEq, forall_const, ↓vmDA, vmVA, ↓vmQA, vmR, vmRA, ↓vmSA, vmSV, tyS, nuE, SubA.skip, SubA.refl, fr.2, areDigits_v, panSum_v, rdigits_v, rsum_v, panLuhn_v, rLuhn_v, panCheck_v, rCheck_v, calIsDate_v, calDay_v, stLim_v, slIndexByte_v, indexByte_v, indexRune_v, containsRune_v, classOf_v, isWordByte_v, letter_v, digit_v, wordAt_v, rword_v, isName_v, risName_v, rIsDate_v, rDay_v, rAmount_v, lr2, lt, lbk, c1, c8, a2, t1, a1t, hrd, advC, we, sc_radv]
      have n0' := fr.2 0
      have hE1 : SubA E ((ν 0, Obj.cells (advC x).toArray 89) :: (B ++ E)) := SubA.fresh n0' d.right
      have hB1 : SubA B ((ν 0, Obj.cells (advC x).toArray 89) :: (B ++ E)) := SubA.fresh n0' (SubA.left B E)
      refine RunA.use ?_
      refine append_src (m := 1) (news := advC x) (B := B) slc47 zro89 rfl (by decide) ho hB1 (.inr ⟨ν 0, 0, rfl, by simp (maxDischargeDepth := 16) only [argE_nil, argE_cons, ↓vmD, vmV, vmStd, Nat.reduceMul, ↓reduceIte, Nat.reduceAdd, Nat.reduceSub, Nat.reduceEqDiff, Nat.reduceLT, Nat.reduceLeDiff, reduceCtorEq, Int.reduceToNat, Int.reduceLT, Int.reduceLE, Int.reduceEq, Int.reduceNeg, Int.reduceBEq, Int.reduceBNe, String.reduceEq, forall_const, ↓vmDA, vmVA, ↓vmQA, vmR, vmRA, ↓vmSA, vmSV, tyS, nuE, SubA.skip, SubA.refl, fr.2, areDigits_v, panSum_v, rdigits_v, rsum_v, panLuhn_v, rLuhn_v, panCheck_v, rCheck_v, calIsDate_v, calDay_v, stLim_v, slIndexByte_v, indexByte_v, indexRune_v, containsRune_v, classOf_v, isWordByte_v, letter_v, digit_v, wordAt_v, rword_v, isName_v, risName_v, rIsDate_v, rDay_v, rAmount_v, advC]⟩) (by simp [advC, Value.oneCell']) (by simp only [maxLen]; omega) (by omega) ?_
      intro v' B' ho' hb'
      have dB' : Dis B' E := ap_dis hb' d hE1
      refine ⟨B' ++ E, SubA.app hE1, ?_⟩
      intro ν3 fr3
      have fr := fr3
      have nuE := fr.nu
      simp (maxDischargeDepth := 16) only [argE_nil, argE_cons, ↓vmD, vmV, vmStd, Nat.reduceMul, ↓reduceIte, Nat.reduceAdd, Nat.reduceSub, Nat.reduceEqDiff, Nat.reduceLT, Nat.reduceLeDiff, reduceCtorEq, Int.reduceToNat, Int.reduceLT, Int.reduceLE, Int.reduceEq, Int.reduceNeg, Int.reduceBEq, Int.reduceBNe, String.reduceEq, forall_const, ↓vmDA, vmVA, ↓vmQA, vmR, vmRA, ↓vmSA, vmSV, tyS, nuE, SubA.skip, SubA.refl, fr.2, areDigits_v, panSum_v, rdigits_v, rsum_v, panLuhn_v, rLuhn_v, panCheck_v, rCheck_v, calIsDate_v, calDay_v, stLim_v, slIndexByte_v, indexByte_v, indexRune_v, containsRune_v, classOf_v, isWordByte_v, letter_v, digit_v, wordAt_v, rword_v, isName_v, risName_v, rIsDate_v, rDay_v, rAmount_v, we]
      exact LoopA.weak (ih (e + 1) v' B' hd' (by omega) (by rw [hst]; exact radv_app ho') dB') (by simp only [subE, get_cons, Nat.reduceEqDiff, ↓reduceIte, reduceCtorEq, Nat.reduceAdd, and_self, and_true]) (SubA.refl _)
    · rw [if_neg (fun h => a1 h.1), List.append_nil] at hst
      simp (maxDischargeDepth := 16) only [argE_nil, argE_cons, ↓vmD, vmV, vmStd, Nat.reduceMul, ↓reduceIte, Nat.reduceAdd, Nat.reduceSub, Nat.reduceEqDiff, Nat.reduceLT, Nat.reduceLeDiff, reduceCtorEq, Int.reduceToNat, Int.reduceLT, Int.reduceLE, Int.reduceEq, Int.reduceNeg, Int.reduceBEq, Int.reduceBNe, String.reduceEq, forall_const, ↓vmDA, vmVA, ↓vmQA, vmR, vmRA, ↓vmSA, vmSV, tyS, nuE, SubA.skip, SubA.refl, fr.2, areDigits_v, panSum_v, rdigits_v, rsum_v, panLuhn_v, rLuhn_v, panCheck_v, rCheck_v, calIsDate_v, calDay_v, stLim_v, slIndexByte_v, indexByte_v, indexRune_v, containsRune_v, classOf_v, isWordByte_v, letter_v, digit_v, wordAt_v, rword_v, isName_v, risName_v, rIsDate_v, rDay_v, rAmount_v, lr2, lt, lbk, c1, c8, a2, t1, a1, we]
      exact LoopA.weak (ih (e + 1) v B hd' (by omega) (by rw [hst]; exact ho) d) (by simp only [subE, get_cons, Nat.reduceEqDiff, ↓reduceIte, reduceCtorEq, Nat.reduceAdd, and_self, and_true]) (SubA.refl _)

end Go.Proofs.Ytmjkjpjjckcihaa
