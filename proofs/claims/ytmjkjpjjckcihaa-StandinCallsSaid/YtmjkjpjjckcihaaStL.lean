/-
Stand-in: the walks of the reference's stand-in that write, and of the law's copies.
Conditions: none.
-/
import Derived.Test.YtmjkjpjjckcihaaStJ
import Derived.Test.YtmjkjpjjckcihaaStF
namespace Go.Proofs.Ytmjkjpjjckcihaa
open Go.Vm
set_option linter.unusedSimpArgs false
set_option linter.unusedVariables false
set_option maxHeartbeats 4000000
set_option maxRecDepth 20000
theorem putB_putB (A : AH) (b : Nat) (u w : Obj) : putB (putB A b u) b w = putB A b w := by
  induction A with
  | nil => rfl
  | cons p A ih =>
    obtain ⟨c, o⟩ := p
    simp only [putB]
    by_cases h : c = b
    · rw [if_pos h, if_pos h]; simp only [putB]; rw [if_pos h]
    · rw [if_neg h, if_neg h]; simp only [putB]; rw [if_neg h, ih]
/-- A stand-in of the reference with a decision, whose row may be written. -/
theorem StV.set {E : AH} {rb : Nat} {lm : List Lim} {L : List Dec} (hE : StV E rb lm L) {i : Nat} {x : Dec} (hx : L[i]? = some x) :
    ∃ (ql : Option Addr) (cl cc g : Nat) (cur : Array Value), Vm.look E rb = some (Obj.cells #[.slice ql lm.length cl, .slice (some ⟨g, 0, none⟩) L.length cc] 79) ∧ Vm.look E g = some (Obj.cells cur 91) ∧ ((rb = g) = False ∧ (g = rb) = False) ∧ i < L.length ∧ i * 9 + 9 ≤ cur.size ∧ (∀ j u, (choC x)[j]? = some u → cur[i * 9 + j]? = some u) ∧
      ∀ y : Dec, y.key = x.key → y.amt = x.amt → (y.wai = true → y.app = true ∧ y.rev = false) → StV (putB E g (Obj.cells (splice cur (i * 9) (choC y)) 91)) rb lm (L.set i y) := by
  obtain ⟨vl, vc, Bl, Bc, rfl, sp, h1, h2, ⟨hu, hamt, hlen, hwa⟩, h4⟩ := hE
  obtain ⟨ql, cl, rfl, _, s1⟩ := h1.read limC_len
  have hi : i < L.length := (List.getElem?_eq_some_iff.1 hx).1
  have hne : L ≠ [] := by intro h; subst h; simp at hi
  obtain ⟨g, cc, cur, rfl, rfl, h5, h6, h7, h8⟩ := h2.blk hne
  have n0 : Vm.look [(rb, _)] g = none := (sp.dis2 (i := 0) (j := 2) (by decide) (by simp) (by simp)) g (by simp [at_, Vm.look])
  have n1 : Vm.look Bl g = none := (sp.dis2 (i := 1) (j := 2) (by decide) (by simp) (by simp)) g (by simp [at_, Vm.look])
  obtain ⟨q, c2, hq, _, hs⟩ := h2.read choC_len
  cases hq
  obtain ⟨b, off, cs, ty, fr0, hp0, hbk, hcr, hcc⟩ := hs.at hx
  cases hp0
  simp [Vm.look] at hbk
  obtain ⟨rfl, rfl, rfl⟩ := hbk
  refine ⟨ql, cl, cc, g, cur, sp.subs [0] rfl _ _ (by simp [pick, at_, cat, Vm.look]), sp.subs [2] rfl _ _ (by simp [pick, at_, cat, Vm.look]), ?_, hi, ?_, fun j u hu => by have := hcc j u hu; rwa [Nat.zero_add] at this, ?_⟩
  · have := look_ne n0 (if_pos rfl)
    exact ⟨this.2, this.1⟩
  · have := (h2.set choC_len hi x).2
    exact this
  · intro y hk ha hw
    have e1 : putB (cat [[(rb, Obj.cells #[.slice ql lm.length cl, .slice (some ⟨g, 0, none⟩) L.length cc] 79)], Bl, [(g, (Obj.cells cur 91))]]) g (Obj.cells (splice cur (i * 9) (choC y)) 91) = cat [[(rb, Obj.cells #[.slice ql lm.length cl, .slice (some ⟨g, 0, none⟩) L.length cc] 79)], Bl, [(g, Obj.cells (splice cur (i * 9) (choC y)) 91)]] := by
      simp only [cat]
      rw [putB_app_r n0, putB_app_r n1]
      simp [putB]
    rw [e1]
    have s2 := Sep.set (l := [[(rb, Obj.cells #[.slice ql lm.length cl, .slice (some ⟨g, 0, none⟩) L.length cc] 79)], Bl, [(g, (Obj.cells cur 91))]]) 2 [(g, Obj.cells (splice cur (i * 9) (choC y)) 91)] sp one_less
    have h2' := (h2.set choC_len hi y).1
    refine ⟨.slice ql lm.length cl, .slice (some ⟨g, 0, none⟩) L.length cc, Bl, [(g, Obj.cells (splice cur (i * 9) (choC y)) 91)], rfl, s2, h1, h2', ⟨keyU_set hu hx hk, fun d hd => ?_, by rw [List.length_set]; exact hlen, fun d hd hdw => ?_⟩, h4⟩
    · rcases List.mem_or_eq_of_mem_set hd with e | e
      · exact hamt d e
      · rw [e, ha]; exact hamt x (List.mem_of_getElem? hx)
    · rcases List.mem_or_eq_of_mem_set hd with e | e
      · exact hwa d e hdw
      · rw [e] at hdw ⊢; exact hw hdw
theorem set_self (c : Array Value) (k : Nat) (v : Value) (h : c[k]? = some v) : c.setIfInBounds k v = c := by
  apply Array.ext (by simp)
  intro n h1 h2
  rw [Array.getElem_setIfInBounds]
  split
  · rename_i e
    subst e
    have := Array.getElem?_eq_getElem h2
    rw [h] at this
    exact Option.some.inj this
  · rfl
theorem splice_rev {cur : Array Value} {i : Nat} {x : Dec} (a b : Bool) (hcc : ∀ j u, (choC x)[j]? = some u → cur[i * 9 + j]? = some u) : splice cur (i * 9) (choC { x with rev := a, wai := b }) = (cur.setIfInBounds (i * 9 + 7) (.bool a)).setIfInBounds (i * 9 + 8) (.bool b) := by
  simp only [choC, splice]
  rw [set_self cur (i * 9) _ (hcc 0 _ rfl), set_self cur (i * 9 + 1) _ (hcc 1 _ rfl), set_self cur (i * 9 + 1 + 1) _ (hcc 2 _ rfl), set_self cur (i * 9 + 1 + 1 + 1) _ (hcc 3 _ rfl), set_self cur (i * 9 + 1 + 1 + 1 + 1) _ (hcc 4 _ rfl), set_self cur (i * 9 + 1 + 1 + 1 + 1 + 1) _ (hcc 5 _ rfl), set_self cur (i * 9 + 1 + 1 + 1 + 1 + 1 + 1) _ (hcc 6 _ rfl)]
theorem rReverse_h (E : AH) (rb : Nat) (lm : List Lim) (L : List Dec) (hE : StV E rb lm L) (k : List UInt8) : CallA Try.prog 15 #[.pointer (some ⟨rb, 0, none⟩), .string (bs k)] E (fun u_ A_ => u_ = .int .i64 (revX k L).1 ∧ ∃ E', StV E' rb lm (revX k L).2 ∧ SubA E' A_ ∧ ∀ x, Vm.look E x ≠ none → Vm.look A_ x ≠ none) := by
  refine callA_of_denA ⟨Try.prog, 15, Try.f15, 46, [0, 1, 4, 5], [], [], _⟩ (args := [_, _]) Try.func15 rfl (by kernel_rfl) Try.ntmps15 (by simp) (by kernel_rfl) ?_
  intro ν fr; have nuE := fr.nu
  have fn := rIndex_v E rb lm L hE k
  cases hp : posD k L with
  | none =>
    simp only [hp] at fn
    have e : revX k L = (6, L) := by unfold revX; rw [hp]
    simp (maxDischargeDepth := 16) only [argE_nil, argE_cons, ↓vmD, vmV, vmStd, Nat.reduceMul, ↓reduceIte, Nat.reduceAdd, Nat.reduceSub, Nat.reduceEqDiff, Nat.reduceLT, Nat.reduceLeDiff, reduceCtorEq, Int.reduceToNat, Int.reduceLT, Int.reduceLE, Int.reduceEq, Int.reduceNeg, Int.reduceBEq, Int.reduceBNe, String.reduceEq, forall_const, ↓vmDA, vmVA, ↓vmQA, vmR, vmRA, ↓vmSA, vmSV, tyS, nuE, SubA.skip, SubA.refl, fr.2, areDigits_v, panSum_v, rdigits_v, rsum_v, panLuhn_v, rLuhn_v, panCheck_v, rCheck_v, calIsDate_v, calDay_v, stLim_v, slIndexByte_v, indexByte_v, indexRune_v, containsRune_v, classOf_v, isWordByte_v, letter_v, digit_v, wordAt_v, rword_v, isName_v, risName_v, rIsDate_v, rDay_v, rAmount_v, awk_v, fn, e]
    exact ⟨E, hE, SubA.refl _, fun x hx => hx⟩
  | some i =>
    simp only [hp] at fn
    obtain ⟨d, hd, hk⟩ := posD_some hp
    have hr : revX k L = if d.app = false ∨ d.rev = true then (8, L) else (0, L.set i { d with rev := true, wai := false }) := by unfold revX; simp only [hp, hd]
    obtain ⟨ql, cl, cc, g, cur, lr, lg, ng, hlt, hsz, hcc, hput⟩ := hE.set hd
    have c3 : ((i : Int) < 0) = False := eq_false (by omega)
    have c4 : ((i : Int) < (L.length : Int)) = True := eq_true (by omega)
    have c6 := hcc 6 _ rfl
    have c7 := hcc 7 _ rfl
    cases a1 : d.app with
    | false =>
      have e : revX k L = (8, L) := by rw [hr, if_pos (.inl a1)]
      simp (maxDischargeDepth := 16) only [argE_nil, argE_cons, ↓vmD, vmV, vmStd, Nat.reduceMul, ↓reduceIte, Nat.reduceAdd, Nat.reduceSub, Nat.reduceEqDiff, Nat.reduceLT, Nat.reduceLeDiff, reduceCtorEq, Int.reduceToNat, Int.reduceLT, Int.reduceLE, Int.reduceEq, Int.reduceNeg, Int.reduceBEq, Int.reduceBNe, String.reduceEq, forall_const, ↓vmDA, vmVA, ↓vmQA, vmR, vmRA, ↓vmSA, vmSV, tyS, nuE, SubA.skip, SubA.refl, fr.2, areDigits_v, panSum_v, rdigits_v, rsum_v, panLuhn_v, rLuhn_v, panCheck_v, rCheck_v, calIsDate_v, calDay_v, stLim_v, slIndexByte_v, indexByte_v, indexRune_v, containsRune_v, classOf_v, isWordByte_v, letter_v, digit_v, wordAt_v, rword_v, isName_v, risName_v, rIsDate_v, rDay_v, rAmount_v, awk_v, fn, c3, c4, lr, lg, c6, a1, e]
      exact ⟨E, hE, SubA.refl _, fun x hx => hx⟩
    | true =>
    cases a2 : d.rev with
    | true =>
      have e : revX k L = (8, L) := by rw [hr, if_pos (.inr a2)]
      simp (maxDischargeDepth := 16) only [argE_nil, argE_cons, ↓vmD, vmV, vmStd, Nat.reduceMul, ↓reduceIte, Nat.reduceAdd, Nat.reduceSub, Nat.reduceEqDiff, Nat.reduceLT, Nat.reduceLeDiff, reduceCtorEq, Int.reduceToNat, Int.reduceLT, Int.reduceLE, Int.reduceEq, Int.reduceNeg, Int.reduceBEq, Int.reduceBNe, String.reduceEq, forall_const, ↓vmDA, vmVA, ↓vmQA, vmR, vmRA, ↓vmSA, vmSV, tyS, nuE, SubA.skip, SubA.refl, fr.2, areDigits_v, panSum_v, rdigits_v, rsum_v, panLuhn_v, rLuhn_v, panCheck_v, rCheck_v, calIsDate_v, calDay_v, stLim_v, slIndexByte_v, indexByte_v, indexRune_v, containsRune_v, classOf_v, isWordByte_v, letter_v, digit_v, wordAt_v, rword_v, isName_v, risName_v, rIsDate_v, rDay_v, rAmount_v, awk_v, fn, c3, c4, lr, lg, c6, c7, a1, a2, e]
      exact ⟨E, hE, SubA.refl _, fun x hx => hx⟩
    | false =>
      have e : revX k L = (0, L.set i { d with rev := true, wai := false }) := by rw [hr, if_neg (by rw [a1, a2]; simp)]
      have s1 : (i * 9 + 7 + 1 ≤ cur.size) = True := eq_true (by omega)
      have s2 : (i * 9 + 8 + 1 ≤ cur.size) = True := eq_true (by omega)
      have l1 : Vm.look (putB E g (Obj.cells (cur.setIfInBounds (i * 9 + 7) (.bool true)) 91)) rb = some (Obj.cells #[.slice ql lm.length cl, .slice (some ⟨g, 0, none⟩) L.length cc] 79) := (look_put_ne (of_eq_false ng.1)).trans lr
      have l2 : Vm.look (putB E g (Obj.cells (cur.setIfInBounds (i * 9 + 7) (.bool true)) 91)) g = some (Obj.cells (cur.setIfInBounds (i * 9 + 7) (.bool true)) 91) := look_put lg
      have hS := hput { d with rev := true, wai := false } rfl rfl (fun h => by cases h)
      rw [splice_rev true false hcc, ← putB_putB E g (Obj.cells (cur.setIfInBounds (i * 9 + 7) (.bool true)) 91)] at hS
      simp (maxDischargeDepth := 16) only [argE_nil, argE_cons, ↓vmD, vmV, vmStd, Nat.reduceMul, ↓reduceIte, Nat.reduceAdd, Nat.reduceSub, Nat.reduceEqDiff, Nat.reduceLT, Nat.reduceLeDiff, reduceCtorEq, Int.reduceToNat, Int.reduceLT, Int.reduceLE, Int.reduceEq, Int.reduceNeg, Int.reduceBEq, Int.reduceBNe, String.reduceEq, forall_const, ↓vmDA, vmVA, ↓vmQA, vmR, vmRA, ↓vmSA, vmSV, tyS, nuE, SubA.skip, SubA.refl, fr.2, areDigits_v, panSum_v, rdigits_v, rsum_v, panLuhn_v, rLuhn_v, panCheck_v, rCheck_v, calIsDate_v, calDay_v, stLim_v, slIndexByte_v, indexByte_v, indexRune_v, containsRune_v, classOf_v, isWordByte_v, letter_v, digit_v, wordAt_v, rword_v, isName_v, risName_v, rIsDate_v, rDay_v, rAmount_v, awk_v, fn, c3, c4, lr, lg, c6, c7, a1, a2, e, s1, s2, l1, l2, Array.size_setIfInBounds]
      exact ⟨_, by simpa [a1] using hS, SubA.refl _, fun y hy => put_dom (put_dom hy)⟩

theorem splice_ack {cur : Array Value} {i : Nat} {x : Dec} (b : Bool) (hcc : ∀ j u, (choC x)[j]? = some u → cur[i * 9 + j]? = some u) : splice cur (i * 9) (choC { x with wai := b }) = cur.setIfInBounds (i * 9 + 8) (.bool b) := by
  have := splice_rev x.rev b hcc
  rw [set_self cur (i * 9 + 7) _ (hcc 7 _ rfl)] at this
  exact this
theorem rAck_h (E : AH) (rb : Nat) (lm : List Lim) (L : List Dec) (hE : StV E rb lm L) (k : List UInt8) : CallA Try.prog 17 #[.pointer (some ⟨rb, 0, none⟩), .string (bs k)] E (fun u_ A_ => u_ = .int .i64 (ackX k L).1 ∧ ∃ E', StV E' rb lm (ackX k L).2 ∧ SubA E' A_ ∧ ∀ x, Vm.look E x ≠ none → Vm.look A_ x ≠ none) := by
  refine callA_of_denA ⟨Try.prog, 17, Try.f17, 29, [0, 1, 4, 5], [], [], _⟩ (args := [_, _]) Try.func17 rfl (by kernel_rfl) Try.ntmps17 (by simp) (by kernel_rfl) ?_
  intro ν fr; have nuE := fr.nu
  have fn := rIndex_v E rb lm L hE k
  cases hp : posD k L with
  | none =>
    simp only [hp] at fn
    have e : ackX k L = (6, L) := by unfold ackX; rw [hp]
    obtain ⟨ql, qc, cl, cc, lr, hs1, hs, _, hlm⟩ := hE.out
    simp (maxDischargeDepth := 16) only [argE_nil, argE_cons, ↓vmD, vmV, vmStd, Nat.reduceMul, ↓reduceIte, Nat.reduceAdd, Nat.reduceSub, Nat.reduceEqDiff, Nat.reduceLT, Nat.reduceLeDiff, reduceCtorEq, Int.reduceToNat, Int.reduceLT, Int.reduceLE, Int.reduceEq, Int.reduceNeg, Int.reduceBEq, Int.reduceBNe, String.reduceEq, forall_const, ↓vmDA, vmVA, ↓vmQA, vmR, vmRA, ↓vmSA, vmSV, tyS, nuE, SubA.skip, SubA.refl, fr.2, areDigits_v, panSum_v, rdigits_v, rsum_v, panLuhn_v, rLuhn_v, panCheck_v, rCheck_v, calIsDate_v, calDay_v, stLim_v, slIndexByte_v, indexByte_v, indexRune_v, containsRune_v, classOf_v, isWordByte_v, letter_v, digit_v, wordAt_v, rword_v, isName_v, risName_v, rIsDate_v, rDay_v, rAmount_v, awk_v, fn, lr, e]
    exact ⟨E, hE, SubA.refl _, fun x hx => hx⟩
  | some i =>
    simp only [hp] at fn
    obtain ⟨d, hd, hk⟩ := posD_some hp
    have hr : ackX k L = if d.wai = true then (0, L.set i { d with wai := false }) else (6, L) := by unfold ackX; simp only [hp, hd]
    obtain ⟨ql, cl, cc, g, cur, lr, lg, ng, hlt, hsz, hcc, hput⟩ := hE.set hd
    have c3 : ((i : Int) < 0) = False := eq_false (by omega)
    have c4 : ((i : Int) < (L.length : Int)) = True := eq_true (by omega)
    have c8 := hcc 8 _ rfl
    cases a1 : d.wai with
    | false =>
      have e : ackX k L = (6, L) := by rw [hr, if_neg (by rw [a1]; simp)]
      simp (maxDischargeDepth := 16) only [argE_nil, argE_cons, ↓vmD, vmV, vmStd, Nat.reduceMul, ↓reduceIte, Nat.reduceAdd, Nat.reduceSub, Nat.reduceEqDiff, Nat.reduceLT, Nat.reduceLeDiff, reduceCtorEq, Int.reduceToNat, Int.reduceLT, Int.reduceLE, Int.reduceEq, Int.reduceNeg, Int.reduceBEq, Int.reduceBNe, String.reduceEq, forall_const, ↓vmDA, vmVA, ↓vmQA, vmR, vmRA, ↓vmSA, vmSV, tyS, nuE, SubA.skip, SubA.refl, fr.2, areDigits_v, panSum_v, rdigits_v, rsum_v, panLuhn_v, rLuhn_v, panCheck_v, rCheck_v, calIsDate_v, calDay_v, stLim_v, slIndexByte_v, indexByte_v, indexRune_v, containsRune_v, classOf_v, isWordByte_v, letter_v, digit_v, wordAt_v, rword_v, isName_v, risName_v, rIsDate_v, rDay_v, rAmount_v, awk_v, fn, c3, c4, lr, lg, c8, a1, e]
      exact ⟨E, hE, SubA.refl _, fun x hx => hx⟩
    | true =>
      have e : ackX k L = (0, L.set i { d with wai := false }) := by rw [hr, if_pos a1]
      have s2 : (i * 9 + 8 + 1 ≤ cur.size) = True := eq_true (by omega)
      have hS := hput { d with wai := false } rfl rfl (fun h => by cases h)
      rw [splice_ack false hcc] at hS
      simp (maxDischargeDepth := 16) only [argE_nil, argE_cons, ↓vmD, vmV, vmStd, Nat.reduceMul, ↓reduceIte, Nat.reduceAdd, Nat.reduceSub, Nat.reduceEqDiff, Nat.reduceLT, Nat.reduceLeDiff, reduceCtorEq, Int.reduceToNat, Int.reduceLT, Int.reduceLE, Int.reduceEq, Int.reduceNeg, Int.reduceBEq, Int.reduceBNe, String.reduceEq, forall_const, ↓vmDA, vmVA, ↓vmQA, vmR, vmRA, ↓vmSA, vmSV, tyS, nuE, SubA.skip, SubA.refl, fr.2, areDigits_v, panSum_v, rdigits_v, rsum_v, panLuhn_v, rLuhn_v, panCheck_v, rCheck_v, calIsDate_v, calDay_v, stLim_v, slIndexByte_v, indexByte_v, indexRune_v, containsRune_v, classOf_v, isWordByte_v, letter_v, digit_v, wordAt_v, rword_v, isName_v, risName_v, rIsDate_v, rDay_v, rAmount_v, awk_v, fn, c3, c4, lr, lg, c8, a1, e, s2]
      exact ⟨_, hS, SubA.refl _, fun y hy => put_dom hy⟩

end Go.Proofs.Ytmjkjpjjckcihaa
