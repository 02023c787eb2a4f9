/-
Stand-in: calls of the laws, which are few and short; lists of what waits.
Conditions: none.
-/
import Derived.Test.YtmjkjpjjckcihaaStF
namespace Go.Proofs.Ytmjkjpjjckcihaa
open Go.Vm
set_option linter.unusedSimpArgs false
set_option linter.unusedVariables false
set_option maxHeartbeats 4000000
set_option maxRecDepth 20000
structure OpT where
  kind : Int
  at_ : Int
  key : List UInt8
  iss : List UInt8
  card : List UInt8
  amt : Int
def opC (x : OpT) : List Value := [.int .i64 x.kind, .int .i64 x.at_, .string (bs x.key), .string (bs x.iss), .string (bs x.card), .int .i64 x.amt]
theorem opC_len (x : OpT) : (opC x).length = 6 := rfl
def opB (x : OpT) : Bool := decide (x.key.length ≤ 100) && (decide (x.iss.length ≤ 100) && decide (x.card.length ≤ 100))
def smallB (M : List Lim) (L : List OpT) : Bool := decide (M.length ≤ 30) && (decide (L.length ≤ 60) && (M.all (fun l => decide (l.iss.length ≤ 100)) && L.all opB))
theorem all_take {α : Type} {L : List α} {f : α → Bool} {e : Nat} {x : α} (hx : L[e]? = some x) (h : ∀ y ∈ L.take e, f y = true) (hf : f x = true) : ∀ y ∈ L.take (e + 1), f y = true := by
  intro y hy
  rw [List.take_add_one, hx] at hy
  rcases List.mem_append.1 hy with h1 | h1
  · exact h y h1
  · simp at h1; rw [h1]; exact hf
theorem all_no {α : Type} {L : List α} {f : α → Bool} {x : α} (hx : x ∈ L) (hf : f x = false) : L.all f = false := by
  rw [← Bool.not_eq_true, List.all_eq_true]
  intro h
  rw [h x hx] at hf; cases hf
theorem small_h (A : AH) (M : List Lim) (L : List OpT) (p1 p2 : Option Addr) (c1 c2 : Nat) (h1 : StR limC 4 A p1 M) (h2 : StR opC 6 A p2 L) (l1 : M.length ≤ 9223372036854775807) (l2 : L.length ≤ 9223372036854775807) : CallA Try.prog 7 #[.slice p1 M.length c1, .slice p2 L.length c2] A (fun u_ A_ => u_ = .bool (smallB M L) ∧ SubA A A_) := by
  refine callA_of_denA ⟨Try.prog, 7, Try.f7, 59, [0, 1, 4, 5, 6], [], [], _⟩ (args := [_, _]) Try.func7 rfl (by kernel_rfl) Try.ntmps7 (by simp) (by kernel_rfl) ?_
  intro ν fr; have nuE := fr.nu
  by_cases a1 : 30 < M.length
  · have q : ((30 : Int) < (M.length : Int)) = True := eq_true (by omega)
    have e : smallB M L = false := by unfold smallB; rw [show decide (M.length ≤ 30) = false by simp; omega]; rfl
    simp (maxDischargeDepth := 16) only [argE_nil, argE_cons, ↓vmD, vmV, vmStd, Nat.reduceMul, ↓reduceIte, Nat.reduceAdd, Nat.reduceSub, Nat.reduceEqDiff, Nat.reduceLT, Nat.reduceLeDiff, reduceCtorEq, Int.reduceToNat, Int.reduceLT, Int.reduceLE, Int.reduceEq, Int.reduceNeg, Int.reduceBEq, Int.reduceBNe, String.reduceEq, forall_const, ↓vmDA, vmVA, ↓vmQA, vmR, vmRA, ↓vmSA, vmSV, tyS, nuE, SubA.skip, SubA.refl, fr.2, areDigits_v, panSum_v, rdigits_v, rsum_v, panLuhn_v, rLuhn_v, panCheck_v, rCheck_v, calIsDate_v, calDay_v, stLim_v, slIndexByte_v, indexByte_v, indexRune_v, containsRune_v, classOf_v, isWordByte_v, letter_v, digit_v, wordAt_v, rword_v, isName_v, risName_v, awk_v, q, e]
  have q : ((30 : Int) < (M.length : Int)) = False := eq_false (by omega)
  by_cases a2 : 60 < L.length
  · have q2 : ((60 : Int) < (L.length : Int)) = True := eq_true (by omega)
    have e : smallB M L = false := by unfold smallB; rw [show decide (L.length ≤ 60) = false by simp; omega]; simp
    simp (maxDischargeDepth := 16) only [argE_nil, argE_cons, ↓vmD, vmV, vmStd, Nat.reduceMul, ↓reduceIte, Nat.reduceAdd, Nat.reduceSub, Nat.reduceEqDiff, Nat.reduceLT, Nat.reduceLeDiff, reduceCtorEq, Int.reduceToNat, Int.reduceLT, Int.reduceLE, Int.reduceEq, Int.reduceNeg, Int.reduceBEq, Int.reduceBNe, String.reduceEq, forall_const, ↓vmDA, vmVA, ↓vmQA, vmR, vmRA, ↓vmSA, vmSV, tyS, nuE, SubA.skip, SubA.refl, fr.2, areDigits_v, panSum_v, rdigits_v, rsum_v, panLuhn_v, rLuhn_v, panCheck_v, rCheck_v, calIsDate_v, calDay_v, stLim_v, slIndexByte_v, indexByte_v, indexRune_v, containsRune_v, classOf_v, isWordByte_v, letter_v, digit_v, wordAt_v, rword_v, isName_v, risName_v, awk_v, q, q2, e]
  have q2 : ((60 : Int) < (L.length : Int)) = False := eq_false (by omega)
  have hs : smallB M L = (M.all (fun l => decide (l.iss.length ≤ 100)) && L.all opB) := by unfold smallB; rw [show decide (M.length ≤ 30) = true by simp; omega, show decide (L.length ≤ 60) = true by simp; omega]; rfl
  simp (maxDischargeDepth := 16) only [argE_nil, argE_cons, ↓vmD, vmV, vmStd, Nat.reduceMul, ↓reduceIte, Nat.reduceAdd, Nat.reduceSub, Nat.reduceEqDiff, Nat.reduceLT, Nat.reduceLeDiff, reduceCtorEq, Int.reduceToNat, Int.reduceLT, Int.reduceLE, Int.reduceEq, Int.reduceNeg, Int.reduceBEq, Int.reduceBNe, String.reduceEq, forall_const, ↓vmDA, vmVA, ↓vmQA, vmR, vmRA, ↓vmSA, vmSV, tyS, nuE, SubA.skip, SubA.refl, fr.2, areDigits_v, panSum_v, rdigits_v, rsum_v, panLuhn_v, rLuhn_v, panCheck_v, rCheck_v, calIsDate_v, calDay_v, stLim_v, slIndexByte_v, indexByte_v, indexRune_v, containsRune_v, classOf_v, isWordByte_v, letter_v, digit_v, wordAt_v, rword_v, isName_v, risName_v, awk_v, q, q2]
  obtain ⟨e, l, he, hd, hle, hn⟩ : ∃ (e : Nat) (l : List Lim), e = 0 ∧ l = M.drop e ∧ e ≤ M.length ∧ ∀ y ∈ M.take e, decide (y.iss.length ≤ 100) = true := ⟨0, M, rfl, rfl, by simp, by simp⟩
  rw [show (5, some (Value.int .i64 0)) = (5, some (Value.int .i64 (e : Int))) by rw [he]; rfl]
  clear he nuE fr
  induction l generalizing e with
  | cons x l ih =>
    obtain ⟨ha, hlt, hd', htk⟩ := drop_some hd
    have lt : ((e : Int) < (M.length : Int)) = True := eq_true (by omega)
    have we : IntKind.i64.wrap ((e : Int) + 1) = ((e + 1 : Nat) : Int) := by rw [w_i64 (by omega) (by omega)]; omega
    obtain ⟨bk, off, cs, ty, fr0, hp0, hbk, hcr, hcc⟩ := h1.at ha
    subst hp0
    have c0 : cs[off + e * 4]? = some (.string (bs x.iss)) := hcc 0 _ rfl
    refine LoopA.intro (by kernel_rfl) ?_
    intro ν fr; have nuE := fr.nu
    by_cases h3 : x.iss.length ≤ 100
    · have q3 : ((100 : Int) < (x.iss.length : Int)) = False := eq_false (by omega)
      simp (maxDischargeDepth := 16) only [argE_nil, argE_cons, ↓vmD, vmV, vmStd, Nat.reduceMul, ↓reduceIte, Nat.reduceAdd, Nat.reduceSub, Nat.reduceEqDiff, Nat.reduceLT, Nat.reduceLeDiff, reduceCtorEq, Int.reduceToNat, Int.reduceLT, Int.reduceLE, Int.reduceEq, Int.reduceNeg, Int.reduceBEq, Int.reduceBNe, String.reduceEq, forall_const, ↓vmDA, vmVA, ↓vmQA, vmR, vmRA, ↓vmSA, vmSV, tyS, nuE, SubA.skip, SubA.refl, fr.2, areDigits_v, panSum_v, rdigits_v, rsum_v, panLuhn_v, rLuhn_v, panCheck_v, rCheck_v, calIsDate_v, calDay_v, stLim_v, slIndexByte_v, indexByte_v, indexRune_v, containsRune_v, classOf_v, isWordByte_v, letter_v, digit_v, wordAt_v, rword_v, isName_v, risName_v, awk_v, lt, hbk, c0, bs_size, q3, we]
      exact LoopA.weak (ih (e + 1) hd' (by omega) (all_take ha hn (by simpa using h3))) (by simp only [subE, get_cons, Nat.reduceEqDiff, ↓reduceIte, reduceCtorEq, Nat.reduceAdd, and_self, and_true]) (SubA.refl _)
    · have q3 : ((100 : Int) < (x.iss.length : Int)) = True := eq_true (by omega)
      have e0 : smallB M L = false := by rw [hs, all_no (List.mem_of_getElem? ha) (by simpa using h3)]; rfl
      simp (maxDischargeDepth := 16) only [argE_nil, argE_cons, ↓vmD, vmV, vmStd, Nat.reduceMul, ↓reduceIte, Nat.reduceAdd, Nat.reduceSub, Nat.reduceEqDiff, Nat.reduceLT, Nat.reduceLeDiff, reduceCtorEq, Int.reduceToNat, Int.reduceLT, Int.reduceLE, Int.reduceEq, Int.reduceNeg, Int.reduceBEq, Int.reduceBNe, String.reduceEq, forall_const, ↓vmDA, vmVA, ↓vmQA, vmR, vmRA, ↓vmSA, vmSV, tyS, nuE, SubA.skip, SubA.refl, fr.2, areDigits_v, panSum_v, rdigits_v, rsum_v, panLuhn_v, rLuhn_v, panCheck_v, rCheck_v, calIsDate_v, calDay_v, stLim_v, slIndexByte_v, indexByte_v, indexRune_v, containsRune_v, classOf_v, isWordByte_v, letter_v, digit_v, wordAt_v, rword_v, isName_v, risName_v, awk_v, lt, hbk, c0, bs_size, q3, e0]
  | nil =>
    obtain ⟨hn1, hn2⟩ := drop_nil hd hle
    have lt : ((e : Int) < (M.length : Int)) = False := eq_false (by omega)
    rw [hn2] at hn
    have hM : M.all (fun l => decide (l.iss.length ≤ 100)) = true := List.all_eq_true.2 hn
    rw [hM, Bool.true_and] at hs
    refine LoopA.intro (by kernel_rfl) ?_
    intro ν fr; have nuE := fr.nu
    simp (maxDischargeDepth := 16) only [argE_nil, argE_cons, ↓vmD, vmV, vmStd, Nat.reduceMul, ↓reduceIte, Nat.reduceAdd, Nat.reduceSub, Nat.reduceEqDiff, Nat.reduceLT, Nat.reduceLeDiff, reduceCtorEq, Int.reduceToNat, Int.reduceLT, Int.reduceLE, Int.reduceEq, Int.reduceNeg, Int.reduceBEq, Int.reduceBNe, String.reduceEq, forall_const, ↓vmDA, vmVA, ↓vmQA, vmR, vmRA, ↓vmSA, vmSV, tyS, nuE, SubA.skip, SubA.refl, fr.2, areDigits_v, panSum_v, rdigits_v, rsum_v, panLuhn_v, rLuhn_v, panCheck_v, rCheck_v, calIsDate_v, calDay_v, stLim_v, slIndexByte_v, indexByte_v, indexRune_v, containsRune_v, classOf_v, isWordByte_v, letter_v, digit_v, wordAt_v, rword_v, isName_v, risName_v, awk_v, lt]
    obtain ⟨e2, l, he, hd, hle, hn⟩ : ∃ (e2 : Nat) (l : List OpT), e2 = 0 ∧ l = L.drop e2 ∧ e2 ≤ L.length ∧ ∀ y ∈ L.take e2, opB y = true := ⟨0, L, rfl, rfl, by simp, by simp⟩
    rw [show (6, some (Value.int .i64 0)) = (6, some (Value.int .i64 (e2 : Int))) by rw [he]; rfl]
    clear he nuE fr
    induction l generalizing e2 with
    | cons x l ih =>
      obtain ⟨ha, hlt, hd', htk⟩ := drop_some hd
      have lt : ((e2 : Int) < (L.length : Int)) = True := eq_true (by omega)
      have we : IntKind.i64.wrap ((e2 : Int) + 1) = ((e2 + 1 : Nat) : Int) := by rw [w_i64 (by omega) (by omega)]; omega
      obtain ⟨bk, off, cs, ty, fr0, hp0, hbk, hcr, hcc⟩ := h2.at ha
      subst hp0
      have c0 := hcc 2 _ rfl
      have c1 := hcc 3 _ rfl
      have c2 := hcc 4 _ rfl
      have no : opB x = false → smallB M L = false := fun h => by rw [hs, all_no (List.mem_of_getElem? ha) h]
      refine LoopA.intro (by kernel_rfl) ?_
      intro ν fr; have nuE := fr.nu
      by_cases h3 : x.key.length ≤ 100
      rotate_left
      · have q3 : ((100 : Int) < (x.key.length : Int)) = True := eq_true (by omega)
        have e0 := no (by simp [opB, h3])
        simp (maxDischargeDepth := 16) only [argE_nil, argE_cons, ↓vmD, vmV, vmStd, Nat.reduceMul, ↓reduceIte, Nat.reduceAdd, Nat.reduceSub, Nat.reduceEqDiff, Nat.reduceLT, Nat.reduceLeDiff, reduceCtorEq, Int.reduceToNat, Int.reduceLT, Int.reduceLE, Int.reduceEq, Int.reduceNeg, Int.reduceBEq, Int.reduceBNe, String.reduceEq, forall_const, ↓vmDA, vmVA, ↓vmQA, vmR, vmRA, ↓vmSA, vmSV, tyS, nuE, SubA.skip, SubA.refl, fr.2, areDigits_v, panSum_v, rdigits_v, rsum_v, panLuhn_v, rLuhn_v, panCheck_v, rCheck_v, calIsDate_v, calDay_v, stLim_v, slIndexByte_v, indexByte_v, indexRune_v, containsRune_v, classOf_v, isWordByte_v, letter_v, digit_v, wordAt_v, rword_v, isName_v, risName_v, awk_v, lt, hbk, c0, c1, c2, bs_size, q3, e0]
      have q3 : ((100 : Int) < (x.key.length : Int)) = False := eq_false (by omega)
      by_cases h4 : x.iss.length ≤ 100
      rotate_left
      · have q4 : ((100 : Int) < (x.iss.length : Int)) = True := eq_true (by omega)
        have e0 := no (by simp [opB, h4])
        simp (maxDischargeDepth := 16) only [argE_nil, argE_cons, ↓vmD, vmV, vmStd, Nat.reduceMul, ↓reduceIte, Nat.reduceAdd, Nat.reduceSub, Nat.reduceEqDiff, Nat.reduceLT, Nat.reduceLeDiff, reduceCtorEq, Int.reduceToNat, Int.reduceLT, Int.reduceLE, Int.reduceEq, Int.reduceNeg, Int.reduceBEq, Int.reduceBNe, String.reduceEq, forall_const, ↓vmDA, vmVA, ↓vmQA, vmR, vmRA, ↓vmSA, vmSV, tyS, nuE, SubA.skip, SubA.refl, fr.2, areDigits_v, panSum_v, rdigits_v, rsum_v, panLuhn_v, rLuhn_v, panCheck_v, rCheck_v, calIsDate_v, calDay_v, stLim_v, slIndexByte_v, indexByte_v, indexRune_v, containsRune_v, classOf_v, isWordByte_v, letter_v, digit_v, wordAt_v, rword_v, isName_v, risName_v, awk_v, lt, hbk, c0, c1, c2, bs_size, q3, q4, e0]
      have q4 : ((100 : Int) < (x.iss.length : Int)) = False := eq_false (by omega)
      by_cases h5 : x.card.length ≤ 100
      rotate_left
      · have q5 : ((100 : Int) < (x.card.length : Int)) = True := eq_true (by omega)
        have e0 := no (by simp [opB, h5])
        simp (maxDischargeDepth := 16) only [argE_nil, argE_cons, ↓vmD, vmV, vmStd, Nat.reduceMul, ↓reduceIte, Nat.reduceAdd, Nat.reduceSub, Nat.reduceEqDiff, Nat.reduceLT, Nat.reduceLeDiff, reduceCtorEq, Int.reduceToNat, Int.reduceLT, Int.reduceLE, Int.reduceEq, Int.reduceNeg, Int.reduceBEq, Int.reduceBNe, String.reduceEq, forall_const, ↓vmDA, vmVA, ↓vmQA, vmR, vmRA, ↓vmSA, vmSV, tyS, nuE, SubA.skip, SubA.refl, fr.2, areDigits_v, panSum_v, rdigits_v, rsum_v, panLuhn_v, rLuhn_v, panCheck_v, rCheck_v, calIsDate_v, calDay_v, stLim_v, slIndexByte_v, indexByte_v, indexRune_v, containsRune_v, classOf_v, isWordByte_v, letter_v, digit_v, wordAt_v, rword_v, isName_v, risName_v, awk_v, lt, hbk, c0, c1, c2, bs_size, q3, q4, q5, e0]
      have q5 : ((100 : Int) < (x.card.length : Int)) = False := eq_false (by omega)
      simp (maxDischargeDepth := 16) only [argE_nil, argE_cons, ↓vmD, vmV, vmStd, Nat.reduceMul, ↓reduceIte, Nat.reduceAdd, Nat.reduceSub, Nat.reduceEqDiff, Nat.reduceLT, Nat.reduceLeDiff, reduceCtorEq, Int.reduceToNat, Int.reduceLT, Int.reduceLE, Int.reduceEq, Int.reduceNeg, Int.reduceBEq, Int.reduceBNe, String.reduceEq, forall_const, ↓vmDA, vmVA, ↓vmQA, vmR, vmRA, ↓vmSA, vmSV, tyS, nuE, SubA.skip, SubA.refl, fr.2, areDigits_v, panSum_v, rdigits_v, rsum_v, panLuhn_v, rLuhn_v, panCheck_v, rCheck_v, calIsDate_v, calDay_v, stLim_v, slIndexByte_v, indexByte_v, indexRune_v, containsRune_v, classOf_v, isWordByte_v, letter_v, digit_v, wordAt_v, rword_v, isName_v, risName_v, awk_v, lt, hbk, c0, c1, c2, bs_size, q3, q4, q5, we]
      exact LoopA.weak (ih (e2 + 1) hd' (by omega) (all_take ha hn (by simp [opB, h3, h4, h5]))) (by simp only [subE, get_cons, Nat.reduceEqDiff, ↓reduceIte, reduceCtorEq, Nat.reduceAdd, and_self, and_true]) (SubA.refl _)
    | nil =>
      obtain ⟨hn1, hn2⟩ := drop_nil hd hle
      have lt : ((e2 : Int) < (L.length : Int)) = False := eq_false (by omega)
      rw [hn2] at hn
      have hLL : L.all opB = true := List.all_eq_true.2 hn
      rw [hLL] at hs
      refine LoopA.intro (by kernel_rfl) ?_
      intro ν fr; have nuE := fr.nu
      simp (maxDischargeDepth := 16) only [argE_nil, argE_cons, ↓vmD, vmV, vmStd, Nat.reduceMul, ↓reduceIte, Nat.reduceAdd, Nat.reduceSub, Nat.reduceEqDiff, Nat.reduceLT, Nat.reduceLeDiff, reduceCtorEq, Int.reduceToNat, Int.reduceLT, Int.reduceLE, Int.reduceEq, Int.reduceNeg, Int.reduceBEq, Int.reduceBNe, String.reduceEq, forall_const, ↓vmDA, vmVA, ↓vmQA, vmR, vmRA, ↓vmSA, vmSV, tyS, nuE, SubA.skip, SubA.refl, fr.2, areDigits_v, panSum_v, rdigits_v, rsum_v, panLuhn_v, rLuhn_v, panCheck_v, rCheck_v, calIsDate_v, calDay_v, stLim_v, slIndexByte_v, indexByte_v, indexRune_v, containsRune_v, classOf_v, isWordByte_v, letter_v, digit_v, wordAt_v, rword_v, isName_v, risName_v, awk_v, lt, hs]
theorem small_w (A : AH) (M : List Lim) (L : List OpT) (p1 p2 : Option Addr) (c1 c2 : Nat) (h1 : StR limC 4 A p1 M) (h2 : StR opC 6 A p2 L) (l1 : M.length ≤ 9223372036854775807) (l2 : L.length ≤ 9223372036854775807) (B_ : AH) (hB_ : SubA A B_) : valA Try.prog 7 #[.slice p1 M.length c1, .slice p2 L.length c2] B_ = some (.bool (smallB M L)) := valA_eq (pureA_at (by kernel_rfl) (small_h A M L p1 p2 c1 c2 h1 h2 l1 l2) hB_)
theorem small_v (A : AH) (M : List Lim) (L : List OpT) (p1 p2 : Option Addr) (c1 c2 : Nat) (h1 : StR limC 4 A p1 M) (h2 : StR opC 6 A p2 L) (l1 : M.length ≤ 9223372036854775807) (l2 : L.length ≤ 9223372036854775807) : valA Try.prog 7 #[.slice p1 M.length c1, .slice p2 L.length c2] A = some (.bool (smallB M L)) := valA_eq (pureA_at (by kernel_rfl) (small_h A M L p1 p2 c1 c2 h1 h2 l1 l2) (SubA.refl _))
/-! ### What waits -/
theorem waitL_filter {L : List Dec} {iss k : List UInt8} (hu : KeyU L) (h : waitD k L = false) : (waitL iss L).filter (fun d => !decide (d.key = k)) = waitL iss L := by
  rw [List.filter_eq_self]
  intro d hd
  have hm : d ∈ L := (List.mem_filter.1 hd).1
  have hw : d.wai = true := by have := (List.mem_filter.1 hd).2; simp at this; exact this.1
  obtain ⟨i, hi⟩ := List.getElem?_of_mem hm
  by_cases hk : d.key = k
  · subst hk
    rw [waitD_at hu hi, hw] at h; cases h
  · simp [hk]
theorem waitL_set : ∀ {L : List Dec} {i : Nat} {x y : Dec} {iss : List UInt8}, KeyU L → L[i]? = some x → y.wai = false → waitL iss (L.set i y) = (waitL iss L).filter (fun d => !decide (d.key = x.key))
  | [], _, _, _, _, _, h, _ => by simp at h
  | z :: l, 0, x, y, iss, hu, h, hy => by
    simp at h
    subst h
    unfold KeyU at hu
    simp only [List.map_cons, List.nodup_cons] at hu
    have hid : (waitL iss l).filter (fun d => !decide (d.key = z.key)) = waitL iss l := by
      rw [List.filter_eq_self]
      intro d hd
      have hm : d ∈ l := (List.mem_filter.1 hd).1
      have : d.key ≠ z.key := fun e => hu.1 (by rw [← e]; exact List.mem_map_of_mem hm)
      simp [this]
    unfold waitL at hid ⊢
    simp only [List.set_cons_zero, List.filter_cons, hy, Bool.false_and, Bool.false_eq_true, if_false]
    split
    · simp only [List.filter_cons, decide_true, Bool.not_true, Bool.false_eq_true, if_false]; exact hid.symm
    · exact hid.symm
  | z :: l, i + 1, x, y, iss, hu, h, hy => by
    simp only [List.getElem?_cons_succ] at h
    unfold KeyU at hu
    simp only [List.map_cons, List.nodup_cons] at hu
    have hne : z.key ≠ x.key := fun e => hu.1 (by rw [e]; exact List.mem_map_of_mem (List.mem_of_getElem? h))
    have ih := waitL_set (L := l) (iss := iss) hu.2 h hy
    unfold waitL at ih ⊢
    simp only [List.set_cons_succ, List.filter_cons]
    split
    · simp only [List.filter_cons, hne, decide_false, Bool.not_false, if_true]; rw [ih]
    · exact ih
theorem waitD_none {k : List UInt8} {L : List Dec} (h : posD k L = none) : waitD k L = false := by unfold waitD; rw [h]
theorem rev_wait {L : List Dec} (iss : List UInt8) (k : List UInt8) (hu : KeyU L) (hw : ∀ d ∈ L, d.wai = true → d.app = true ∧ d.rev = false) : waitL iss (revX k L).2 = (waitL iss L).filter (fun d => !decide (d.key = k)) ∧ (waitD k L = true → (revX k L).1 = 0) := by
  unfold revX
  cases hp : posD k L with
  | none =>
    have := waitD_none hp
    exact ⟨(waitL_filter hu this).symm, fun h => by rw [this] at h; cases h⟩
  | some i =>
    obtain ⟨d, hd, hk⟩ := posD_some hp
    subst hk
    simp only [hd]
    have hwd := waitD_at hu hd
    split
    · rename_i h
      have hf : waitD d.key L = false := by
        rw [hwd]
        cases hwa : d.wai with
        | false => rfl
        | true =>
          obtain ⟨h1, h2⟩ := hw d (List.mem_of_getElem? hd) hwa
          rcases h with h | h
          · rw [h1] at h; cases h
          · rw [h2] at h; cases h
      exact ⟨(waitL_filter hu hf).symm, fun h => by rw [hf] at h; cases h⟩
    · exact ⟨waitL_set hu hd rfl, fun _ => rfl⟩
theorem ack_wait {L : List Dec} (iss : List UInt8) (k : List UInt8) (hu : KeyU L) : waitL iss (ackX k L).2 = (waitL iss L).filter (fun d => !decide (d.key = k)) ∧ (ackX k L).1 = if waitD k L = true then 0 else 6 := by
  cases hn : waitD k L with
  | false =>
    rw [ackX_no hn]
    exact ⟨(waitL_filter hu hn).symm, rfl⟩
  | true =>
    obtain ⟨i, d, hp, hd, hwa⟩ := waitD_yes hn
    obtain ⟨d2, hd2, hk⟩ := posD_some hp
    rw [hd] at hd2
    cases hd2
    subst hk
    have e : ackX d.key L = (0, L.set i { d with wai := false }) := by unfold ackX; simp only [hp, hd]; rw [if_pos hwa]
    rw [e]
    exact ⟨waitL_set hu hd rfl, rfl⟩
theorem mem_rev {L : List Dec} {k : List UInt8} {d : Dec} (h : d ∈ (revX k L).2) : ∃ c ∈ L, d.iss = c.iss := by
  unfold revX at h
  split at h
  · exact ⟨d, h, rfl⟩
  · split at h
    · exact ⟨d, h, rfl⟩
    · rename_i x hx
      split at h
      · exact ⟨d, h, rfl⟩
      · rcases List.mem_or_eq_of_mem_set h with e | e
        · exact ⟨d, e, rfl⟩
        · exact ⟨x, List.mem_of_getElem? hx, by rw [e]⟩
theorem mem_ack {L : List Dec} {k : List UInt8} {d : Dec} (h : d ∈ (ackX k L).2) : ∃ c ∈ L, d.iss = c.iss := by
  unfold ackX at h
  split at h
  · exact ⟨d, h, rfl⟩
  · split at h
    · exact ⟨d, h, rfl⟩
    · rename_i x hx
      split at h
      · rcases List.mem_or_eq_of_mem_set h with e | e
        · exact ⟨d, e, rfl⟩
        · exact ⟨x, List.mem_of_getElem? hx, by rw [e]⟩
      · exact ⟨d, h, rfl⟩
theorem waitL_any {L : List Dec} {iss k : List UInt8} (hu : KeyU L) (hi : ∀ d ∈ L, d.iss = iss) : (waitL iss L).any (fun d => decide (d.key = k)) = waitD k L := by
  cases hn : waitD k L with
  | false =>
    rw [← Bool.not_eq_true, List.any_eq_true]
    rintro ⟨d, hd, hk⟩
    have hm : d ∈ L := (List.mem_filter.1 hd).1
    have hw : d.wai = true := by have := (List.mem_filter.1 hd).2; simp at this; exact this.1
    obtain ⟨i, hi⟩ := List.getElem?_of_mem hm
    simp at hk
    subst hk
    rw [waitD_at hu hi, hw] at hn; cases hn
  | true =>
    obtain ⟨i, d, hp, hd, hwa⟩ := waitD_yes hn
    obtain ⟨d2, hd2, hk⟩ := posD_some hp
    rw [hd] at hd2
    cases hd2
    rw [List.any_eq_true]
    refine ⟨d, List.mem_filter.2 ⟨List.mem_of_getElem? hd, by simp [hwa, hi d (List.mem_of_getElem? hd)]⟩, by simp [hk]⟩
theorem waitL_other {L : List Dec} {iss oth : List UInt8} (hi : ∀ d ∈ L, d.iss = iss) (hne : iss ≠ oth) : waitL oth L = [] := by
  unfold waitL
  rw [List.filter_eq_nil_iff]
  intro d hd
  have := hi d hd
  simp [this, hne]
/-- What a decision leaves. -/
theorem dec_out (lm : List Lim) (L : List Dec) (at_ : Int) (key iss card : List UInt8) (amt : Int) :
    ((decX lm L at_ key iss card amt).2 = L ∧ ((decX lm L at_ key iss card amt).1.1 = true → (posD key L).isSome = true ∧ (decX lm L at_ key iss card amt).1.2 = 0)) ∨
    (posD key L = none ∧ (decX lm L at_ key iss card amt).1.2 = 0 ∧ ∃ d, (decX lm L at_ key iss card amt).2 = L ++ [d] ∧ d.key = key ∧ d.iss = iss ∧ d.card = card ∧ d.amt = amt ∧ d.at_ = at_ ∧ d.wai = (decX lm L at_ key iss card amt).1.1) := by
  unfold decX
  split
  · exact .inl ⟨rfl, fun h => by cases h⟩
  · cases hp : posD key L with
    | some i =>
      obtain ⟨d, hd, _⟩ := posD_some hp
      simp only [hd]
      exact .inl ⟨by trivial, fun _ => by simp⟩
    | none =>
      simp only
      split
      · exact .inl ⟨rfl, fun h => by cases h⟩
      · exact .inr ⟨trivial, rfl, _, rfl, rfl, rfl, rfl, rfl, rfl, rfl⟩
end Go.Proofs.Ytmjkjpjjckcihaa
