/-
Lists of texts: are they the same?
Conditions: none.
-/
import Derived.Test.YthahheeahdhepaaUnm
namespace Go.Proofs.Ythahheeahdhepaa
open Go.Vm
set_option linter.unusedSimpArgs false
set_option linter.unusedVariables false
set_option maxHeartbeats 2000000
set_option maxRecDepth 20000
/-- A slice of strings, to be read. -/
def StrR (A : AH) (p : Option Addr) (xs : List ByteArray) : Prop := xs = [] ∨ ∃ (g : Nat) (ca : Array Value) (e : TypeId), p = some ⟨g, 0, none⟩ ∧ Vm.look A g = some (.cells ca e) ∧ ∀ (i : Nat) (s : ByteArray), xs[i]? = some s → ca[i]? = some (Value.string s)
theorem drop_some {α : Type} {L l : List α} {e : Nat} {a : α} (h3 : a :: l = L.drop e) : L[e]? = some a ∧ e < L.length ∧ l = L.drop (e + 1) := by
  have ha : L[e]? = some a := by
    have := congrArg (fun x => x[0]?) h3
    simpa using this.symm
  refine ⟨ha, (List.getElem?_eq_some_iff.1 ha).1, ?_⟩
  have := congrArg (fun x => x.drop 1) h3
  simpa [List.drop_drop, Nat.add_comm] using this
theorem drop_nil {α : Type} {L : List α} {e : Nat} (h3 : [] = L.drop e) : L.length ≤ e := by
  rcases Nat.lt_or_ge e L.length with h | h
  · rw [List.drop_eq_getElem_cons h] at h3; cases h3
  · exact h
def sameB : List ByteArray → List ByteArray → Bool
  | [], _ => true
  | _, [] => true
  | x :: l, y :: k => x.toList == y.toList && sameB l k
theorem sameTexts_h (A : AH) (xs ys : List ByteArray) (pa pb : Option Addr) (na nb : Nat) (ha : StrR A pa xs) (hb : StrR A pb ys) (hl : xs.length ≤ 1000000) : CallA Try.prog 22 #[.slice pa xs.length na, .slice pb ys.length nb] A (fun u_ A_ => u_ = .bool (decide (xs.length = ys.length) && sameB xs ys) ∧ SubA A A_) := by
  refine callA_of_denA ⟨Try.prog, 22, Try.f22, 26, [0, 1, 4, 5], [], [(6, .q false)], _⟩ (args := [_, _]) Try.func22 rfl (by kernel_rfl) Try.ntmps22 (by simp) (by kernel_rfl) ?_
  intro ν fr; have nuE := fr.nu
  by_cases hlen : xs.length = ys.length
  · have q : ((xs.length : Int) != (ys.length : Int)) = false := by simp [hlen]
    simp (maxDischargeDepth := 16) only [argE_nil, argE_cons, ↓vmD, vmV, vmStd, Nat.reduceMul, ↓reduceIte, Nat.reduceAdd, Nat.reduceSub, Nat.reduceEqDiff, Nat.reduceLT, Nat.reduceLeDiff, reduceCtorEq, Int.reduceToNat, Int.reduceLT, Int.reduceLE, Int.reduceEq, Int.reduceNeg, Int.reduceBEq, Int.reduceBNe, String.reduceEq, forall_const, ↓vmDA, vmVA, ↓vmQA, vmR, vmRA, ↓vmSA, vmSV, tyS, nuE, slIndexByte_v, indexByte_v, indexRune_v, containsRune_v, classOf_v, isWordByte_v, letter_v, digit_v, wordAt_v, rword_v, isName_v, risName_v, recId_v, authId_v, rId13_v, rId27_v, moneyCur_v, authCur_v, rCur27_v, rCur01_v, isPart_v, authCheck_v, inTotal_v, rwithin1_v, exCard_v, recCheck_v, rrecCheck_v, within27_v, rauthCheck_v, fundsA_v, settledA_v, state27A_v, authOpen_v, rauthOpen_v, authUsable_v, rauthUsable_v, authClear_v, rauthClear_v, tolValid_v, rtolValid_v, allowed_v, rallowed_v, checkPres_v, rable_v, apply_v, rapply_v, q]
    obtain ⟨e, l, k, he, h3, h4, h2⟩ : ∃ (e : Nat) (l k : List ByteArray), e = 0 ∧ l = xs.drop e ∧ k = ys.drop e ∧ sameB xs ys = sameB l k := ⟨0, xs, ys, rfl, by simp, by simp, rfl⟩
    rw [show (5, some (Value.int .i64 0)) = (5, some (Value.int .i64 (e : Int))) by rw [he]; rfl]
    clear he nuE fr
    induction l generalizing e k with
    | nil =>
      have hle := drop_nil h3
      have hlt : ((e : Int) < (xs.length : Int)) = False := by simp; omega
      refine LoopA.intro (by kernel_rfl) ?_
      intro ν fr; have nuE := fr.nu
      simp (maxDischargeDepth := 16) only [argE_nil, argE_cons, ↓vmD, vmV, vmStd, Nat.reduceMul, ↓reduceIte, Nat.reduceAdd, Nat.reduceSub, Nat.reduceEqDiff, Nat.reduceLT, Nat.reduceLeDiff, reduceCtorEq, Int.reduceToNat, Int.reduceLT, Int.reduceLE, Int.reduceEq, Int.reduceNeg, Int.reduceBEq, Int.reduceBNe, String.reduceEq, forall_const, ↓vmDA, vmVA, ↓vmQA, vmR, vmRA, ↓vmSA, vmSV, tyS, nuE, slIndexByte_v, indexByte_v, indexRune_v, containsRune_v, classOf_v, isWordByte_v, letter_v, digit_v, wordAt_v, rword_v, isName_v, risName_v, recId_v, authId_v, rId13_v, rId27_v, moneyCur_v, authCur_v, rCur27_v, rCur01_v, isPart_v, authCheck_v, inTotal_v, rwithin1_v, exCard_v, recCheck_v, rrecCheck_v, within27_v, rauthCheck_v, fundsA_v, settledA_v, state27A_v, authOpen_v, rauthOpen_v, authUsable_v, rauthUsable_v, authClear_v, rauthClear_v, tolValid_v, rtolValid_v, allowed_v, rallowed_v, checkPres_v, rable_v, apply_v, rapply_v, hlt]
      exact ⟨by rw [h2]; simp [sameB, hlen], SubA.refl _⟩
    | cons a l ih =>
      obtain ⟨h5, h6, h7⟩ := drop_some h3
      cases k with
      | nil => have := drop_nil h4; omega
      | cons b k =>
        obtain ⟨h8, h9, h10⟩ := drop_some h4
        have hlt : ((e : Int) < (xs.length : Int)) = True := by simp; omega
        have hlt2 : ((e : Int) < (ys.length : Int)) = True := by simp; omega
        have we : IntKind.i64.wrap ((e : Int) + 1) = ((e + 1 : Nat) : Int) := by rw [w_i64 (by omega) (by omega)]; omega
        rcases ha with ha | ⟨g, ca, e1, rfl, hg, hc⟩
        · rw [ha] at h6; simp at h6
        · rcases hb with hb | ⟨g2, cb, e2, rfl, hg2, hc2⟩
          · rw [hb] at h9; simp at h9
          · have c1 := hc e a h5
            have c2 := hc2 e b h8
            refine LoopA.intro (by kernel_rfl) ?_
            intro ν fr; have nuE := fr.nu
            by_cases hab : a.toList = b.toList
            · have ht : (a.toList == b.toList) = true := by simpa using hab
              simp (maxDischargeDepth := 16) only [argE_nil, argE_cons, ↓vmD, vmV, vmStd, Nat.reduceMul, ↓reduceIte, Nat.reduceAdd, Nat.reduceSub, Nat.reduceEqDiff, Nat.reduceLT, Nat.reduceLeDiff, reduceCtorEq, Int.reduceToNat, Int.reduceLT, Int.reduceLE, Int.reduceEq, Int.reduceNeg, Int.reduceBEq, Int.reduceBNe, String.reduceEq, forall_const, ↓vmDA, vmVA, ↓vmQA, vmR, vmRA, ↓vmSA, vmSV, tyS, nuE, slIndexByte_v, indexByte_v, indexRune_v, containsRune_v, classOf_v, isWordByte_v, letter_v, digit_v, wordAt_v, rword_v, isName_v, risName_v, recId_v, authId_v, rId13_v, rId27_v, moneyCur_v, authCur_v, rCur27_v, rCur01_v, isPart_v, authCheck_v, inTotal_v, rwithin1_v, exCard_v, recCheck_v, rrecCheck_v, within27_v, rauthCheck_v, fundsA_v, settledA_v, state27A_v, authOpen_v, rauthOpen_v, authUsable_v, rauthUsable_v, authClear_v, rauthClear_v, tolValid_v, rtolValid_v, allowed_v, rallowed_v, checkPres_v, rable_v, apply_v, rapply_v, hlt, hlt2, hg, hg2, c1, c2, ht, we, Nat.mul_one]
              exact LoopA.weak (ih (e + 1) k h7 h10 (by rw [h2]; simp only [sameB, ht, Bool.true_and])) (by simp only [subE, get_cons, Nat.reduceEqDiff, ↓reduceIte, reduceCtorEq, Nat.reduceAdd, and_self, and_true]) (SubA.refl _)
            · have ht : (a.toList == b.toList) = false := by simpa using hab
              simp (maxDischargeDepth := 16) only [argE_nil, argE_cons, ↓vmD, vmV, vmStd, Nat.reduceMul, ↓reduceIte, Nat.reduceAdd, Nat.reduceSub, Nat.reduceEqDiff, Nat.reduceLT, Nat.reduceLeDiff, reduceCtorEq, Int.reduceToNat, Int.reduceLT, Int.reduceLE, Int.reduceEq, Int.reduceNeg, Int.reduceBEq, Int.reduceBNe, String.reduceEq, forall_const, ↓vmDA, vmVA, ↓vmQA, vmR, vmRA, ↓vmSA, vmSV, tyS, nuE, slIndexByte_v, indexByte_v, indexRune_v, containsRune_v, classOf_v, isWordByte_v, letter_v, digit_v, wordAt_v, rword_v, isName_v, risName_v, recId_v, authId_v, rId13_v, rId27_v, moneyCur_v, authCur_v, rCur27_v, rCur01_v, isPart_v, authCheck_v, inTotal_v, rwithin1_v, exCard_v, recCheck_v, rrecCheck_v, within27_v, rauthCheck_v, fundsA_v, settledA_v, state27A_v, authOpen_v, rauthOpen_v, authUsable_v, rauthUsable_v, authClear_v, rauthClear_v, tolValid_v, rtolValid_v, allowed_v, rallowed_v, checkPres_v, rable_v, apply_v, rapply_v, hlt, hlt2, hg, hg2, c1, c2, ht, we, Nat.mul_one]
              exact ⟨by rw [h2]; simp only [sameB, ht, Bool.false_and, Bool.and_false], SubA.refl _⟩
  · have q : ((xs.length : Int) != (ys.length : Int)) = true := by simp; omega
    simp (maxDischargeDepth := 16) only [argE_nil, argE_cons, ↓vmD, vmV, vmStd, Nat.reduceMul, ↓reduceIte, Nat.reduceAdd, Nat.reduceSub, Nat.reduceEqDiff, Nat.reduceLT, Nat.reduceLeDiff, reduceCtorEq, Int.reduceToNat, Int.reduceLT, Int.reduceLE, Int.reduceEq, Int.reduceNeg, Int.reduceBEq, Int.reduceBNe, String.reduceEq, forall_const, ↓vmDA, vmVA, ↓vmQA, vmR, vmRA, ↓vmSA, vmSV, tyS, nuE, slIndexByte_v, indexByte_v, indexRune_v, containsRune_v, classOf_v, isWordByte_v, letter_v, digit_v, wordAt_v, rword_v, isName_v, risName_v, recId_v, authId_v, rId13_v, rId27_v, moneyCur_v, authCur_v, rCur27_v, rCur01_v, isPart_v, authCheck_v, inTotal_v, rwithin1_v, exCard_v, recCheck_v, rrecCheck_v, within27_v, rauthCheck_v, fundsA_v, settledA_v, state27A_v, authOpen_v, rauthOpen_v, authUsable_v, rauthUsable_v, authClear_v, rauthClear_v, tolValid_v, rtolValid_v, allowed_v, rallowed_v, checkPres_v, rable_v, apply_v, rapply_v, q, hlen]
    exact SubA.refl _
theorem sameTexts_w (A : AH) (xs ys : List ByteArray) (pa pb : Option Addr) (na nb : Nat) (ha : StrR A pa xs) (hb : StrR A pb ys) (hl : xs.length ≤ 1000000) (B_ : AH) (hB_ : SubA A B_) : valA Try.prog 22 #[.slice pa xs.length na, .slice pb ys.length nb] B_ = some (.bool (decide (xs.length = ys.length) && sameB xs ys)) := valA_eq (pureA_at (by kernel_rfl) (sameTexts_h A xs ys pa pb na nb ha hb hl) hB_)
theorem sameTexts_v (A : AH) (xs ys : List ByteArray) (pa pb : Option Addr) (na nb : Nat) (ha : StrR A pa xs) (hb : StrR A pb ys) (hl : xs.length ≤ 1000000) : valA Try.prog 22 #[.slice pa xs.length na, .slice pb ys.length nb] A = some (.bool (decide (xs.length = ys.length) && sameB xs ys)) := valA_eq (pureA_at (by kernel_rfl) (sameTexts_h A xs ys pa pb na nb ha hb hl) (SubA.refl _))
theorem OwnA.strR {e : TypeId} {v : Value} {B A : AH} {n : Nat} {xs : List ByteArray} (o : OwnA e 1 v B n (xs.map .string)) (h : SubA B A) : ∃ p cap, v = .slice p xs.length cap ∧ StrR A p xs := by
  obtain ⟨h1, h2⟩ := o
  have hn : n = xs.length := by simpa using h1.symm
  subst hn
  rcases h2 with ⟨rfl, rfl, h3⟩ | ⟨g, cap, cur, rfl, rfl, h5, h6, h7, h8⟩
  · exact ⟨none, 0, by rw [h3], Or.inl (List.eq_nil_of_length_eq_zero h3)⟩
  · refine ⟨some ⟨g, 0, none⟩, cap, rfl, Or.inr ⟨g, cur, e, rfl, h g _ (by simp [Vm.look]), fun i s hs => ?_⟩⟩
    have : (cur.toList.take (xs.length * 1))[i]? = some (.string s) := by rw [h8]; simp [hs]
    rw [List.getElem?_take] at this
    split at this
    · simpa using this
    · cases this
end Go.Proofs.Ythahheeahdhepaa
