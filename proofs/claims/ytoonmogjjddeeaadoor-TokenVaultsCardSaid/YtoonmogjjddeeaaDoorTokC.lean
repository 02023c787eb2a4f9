/-
Tokens: the walks of the program's changes of states.
Conditions: none.
-/
import Derived.Test.YtoonmogjjddeeaaDoorTokR
namespace Go.Proofs.YtoonmogjjddeeaaDoor
open Go.Vm
set_option linter.unusedSimpArgs false
set_option linter.unusedVariables false
set_option maxHeartbeats 4000000
set_option maxRecDepth 20000
theorem splice_st {cur : Array Value} {i : Nat} {x : Tok} (tw : Int) (hcc : ∀ j u, (tokC x)[j]? = some u → cur[i * 7 + j]? = some u) : splice cur (i * 7) (tokC { x with st := tw }) = cur.setIfInBounds (i * 7 + 5) (.int .i64 tw) := by
  have self : ∀ (c : Array Value) (k : Nat) (v : Value), c[k]? = some v → c.setIfInBounds k v = c := by
    intro c k v h
    apply Array.ext (by simp)
    intro n h1 h2
    rw [Array.getElem_setIfInBounds]
    split
    · rename_i e
      subst e
      have := Array.getElem?_eq_getElem h2
      rw [h] at this
      exact Option.some.inj this
    · rfl
  simp only [tokC, splice]
  rw [self cur (i * 7) _ (hcc 0 _ rfl), self cur (i * 7 + 1) _ (hcc 1 _ rfl), self cur (i * 7 + 1 + 1) _ (hcc 2 _ rfl), self cur (i * 7 + 1 + 1 + 1) _ (hcc 3 _ rfl), self cur (i * 7 + 1 + 1 + 1 + 1) _ (hcc 4 _ rfl)]
  rw [self (cur.setIfInBounds (i * 7 + 1 + 1 + 1 + 1 + 1) _) (i * 7 + 1 + 1 + 1 + 1 + 1 + 1) _ (by rw [Array.getElem?_setIfInBounds]; rw [if_neg (by omega)]; exact hcc 6 _ rfl)]
theorem chgN_h (E : AH) (vb fb : Nat) (p : List UInt8) (len : Nat) (L : List Tok) (hE : VauP E vb p len L) (s : List UInt8) (tw a : Int) (hn : posT s L = none) (hf : Vm.look E fb = none) : CallA Tryd.prog 33 #[.pointer (some ⟨vb, 0, none⟩), .string (bs s), .int .i64 tw, .slice (some ⟨fb, 0, none⟩) 1 1] ((fb, (Obj.cells #[.int .i64 a] 3)) :: E) (fun u_ A_ => u_ = .int .i64 6 ∧ SubA ((fb, (Obj.cells #[.int .i64 a] 3)) :: E) A_) := by
  refine callA_of_denA ⟨Tryd.prog, 33, Tryd.f33, 34, [0, 1, 2, 3, 8, 9, 11, 17, 18, 19], [], [], _⟩ (args := [_, _, _, _]) Tryd.func33 rfl (by kernel_rfl) Tryd.ntmps33 (by simp) (by kernel_rfl) ?_
  intro ν fr; have nuE := fr.nu
  have fn := findN_w E vb p len L hE s hn _ (SubA.fresh (o := (Obj.cells #[.int .i64 a] 3)) hf (SubA.refl _))
  simp (maxDischargeDepth := 16) only [argE_nil, argE_cons, ↓vmD, vmV, vmStd, Nat.reduceMul, ↓reduceIte, Nat.reduceAdd, Nat.reduceSub, Nat.reduceEqDiff, Nat.reduceLT, Nat.reduceLeDiff, reduceCtorEq, Int.reduceToNat, Int.reduceLT, Int.reduceLE, Int.reduceEq, Int.reduceNeg, Int.reduceBEq, Int.reduceBNe, String.reduceEq, forall_const, ↓vmDA, vmVA, ↓vmQA, vmR, vmRA, ↓vmSA, vmSV, tyS, nuE, SubA.skip, SubA.refl, fr.2, areDigits_v, panSum_v, rdigits_v, rsum_v, panLuhn_v, rLuhn_v, panCheck_v, rCheck_v, panCd_v, rCd_v, isPrefix_v, rMake_v, isLet_v, isId_v, isNm_v, isTm_v, fn]
theorem chgN_w (E : AH) (vb fb : Nat) (p : List UInt8) (len : Nat) (L : List Tok) (hE : VauP E vb p len L) (s : List UInt8) (tw a : Int) (hn : posT s L = none) (hf : Vm.look E fb = none) (B_ : AH) (hB_ : SubA ((fb, (Obj.cells #[.int .i64 a] 3)) :: E) B_) : valA Tryd.prog 33 #[.pointer (some ⟨vb, 0, none⟩), .string (bs s), .int .i64 tw, .slice (some ⟨fb, 0, none⟩) 1 1] B_ = some (.int .i64 6) := valA_eq (pureA_at (by kernel_rfl) (chgN_h E vb fb p len L hE s tw a hn hf) hB_)
theorem chgN_v (E : AH) (vb fb : Nat) (p : List UInt8) (len : Nat) (L : List Tok) (hE : VauP E vb p len L) (s : List UInt8) (tw a : Int) (hn : posT s L = none) (hf : Vm.look E fb = none) : valA Tryd.prog 33 #[.pointer (some ⟨vb, 0, none⟩), .string (bs s), .int .i64 tw, .slice (some ⟨fb, 0, none⟩) 1 1] ((fb, (Obj.cells #[.int .i64 a] 3)) :: E) = some (.int .i64 6) := valA_eq (pureA_at (by kernel_rfl) (chgN_h E vb fb p len L hE s tw a hn hf) (SubA.refl _))
theorem chgS_h (E : AH) (vb fb : Nat) (p : List UInt8) (len : Nat) (L : List Tok) (hE : VauP E vb p len L) (s : List UInt8) (tw a : Int) (i : Nat) (x : Tok) (hi : posT s L = some i) (hx : L[i]? = some x) (hf : Vm.look E fb = none) (hst : x.st ≠ a) : CallA Tryd.prog 33 #[.pointer (some ⟨vb, 0, none⟩), .string (bs s), .int .i64 tw, .slice (some ⟨fb, 0, none⟩) 1 1] ((fb, (Obj.cells #[.int .i64 a] 3)) :: E) (fun u_ A_ => u_ = .int .i64 8 ∧ SubA ((fb, (Obj.cells #[.int .i64 a] 3)) :: E) A_) := by
  refine callA_of_denA ⟨Tryd.prog, 33, Tryd.f33, 34, [0, 1, 2, 3, 8, 9, 11, 17, 18, 19], [], [], _⟩ (args := [_, _, _, _]) Tryd.func33 rfl (by kernel_rfl) Tryd.ntmps33 (by simp) (by kernel_rfl) ?_
  intro ν fr; have nuE := fr.nu
  obtain ⟨mr, g, cap, cl, cur, es, rfl, hm, ho, g1, g2, g3, hok, hlt, hcr, hcc⟩ := vau_at hE hx
  have e1 : ((vb = mr) = False) ∧ ((mr = vb) = False) := ⟨eq_false g1, eq_false fun e => g1 e.symm⟩
  have e2 : ((vb = g) = False) ∧ ((g = vb) = False) := ⟨eq_false g2, eq_false fun e => g2 e.symm⟩
  have e3 : ((mr = g) = False) ∧ ((g = mr) = False) := ⟨eq_false g3, eq_false fun e => g3 e.symm⟩
  have fn := findS_w vb mr g cap cur es cl p len L s i hm g1 hok.2.2.2.2.2.1 hi _ (SubA.fresh (o := (Obj.cells #[.int .i64 a] 3)) hf (SubA.refl _))
  have e4 : ((fb = g) = False) ∧ ((g = fb) = False) := look_ne (o := (Obj.cells cur 53)) hf (by simp [Vm.look, g2, g3])
  have c5 := hcc 5 _ rfl
  simp (maxDischargeDepth := 16) only [argE_nil, argE_cons, ↓vmD, vmV, vmStd, Nat.reduceMul, ↓reduceIte, Nat.reduceAdd, Nat.reduceSub, Nat.reduceEqDiff, Nat.reduceLT, Nat.reduceLeDiff, reduceCtorEq, Int.reduceToNat, Int.reduceLT, Int.reduceLE, Int.reduceEq, Int.reduceNeg, Int.reduceBEq, Int.reduceBNe, String.reduceEq, forall_const, ↓vmDA, vmVA, ↓vmQA, vmR, vmRA, ↓vmSA, vmSV, tyS, nuE, SubA.skip, SubA.refl, fr.2, areDigits_v, panSum_v, rdigits_v, rsum_v, panLuhn_v, rLuhn_v, panCheck_v, rCheck_v, panCd_v, rCd_v, isPrefix_v, rMake_v, isLet_v, isId_v, isNm_v, isTm_v, fn, e1, e2, e3, e4, c5, hst]
  refine LoopA.intro (by kernel_rfl) ?_
  intro ν fr; have nuE := fr.nu
  simp (maxDischargeDepth := 16) only [argE_nil, argE_cons, ↓vmD, vmV, vmStd, Nat.reduceMul, ↓reduceIte, Nat.reduceAdd, Nat.reduceSub, Nat.reduceEqDiff, Nat.reduceLT, Nat.reduceLeDiff, reduceCtorEq, Int.reduceToNat, Int.reduceLT, Int.reduceLE, Int.reduceEq, Int.reduceNeg, Int.reduceBEq, Int.reduceBNe, String.reduceEq, forall_const, ↓vmDA, vmVA, ↓vmQA, vmR, vmRA, ↓vmSA, vmSV, tyS, nuE, SubA.skip, SubA.refl, fr.2, areDigits_v, panSum_v, rdigits_v, rsum_v, panLuhn_v, rLuhn_v, panCheck_v, rCheck_v, panCd_v, rCd_v, isPrefix_v, rMake_v, isLet_v, isId_v, isNm_v, isTm_v, fn, e1, e2, e3, e4, c5, hst]
  refine LoopA.intro (by kernel_rfl) ?_
  intro ν fr; have nuE := fr.nu
  simp (maxDischargeDepth := 16) only [argE_nil, argE_cons, ↓vmD, vmV, vmStd, Nat.reduceMul, ↓reduceIte, Nat.reduceAdd, Nat.reduceSub, Nat.reduceEqDiff, Nat.reduceLT, Nat.reduceLeDiff, reduceCtorEq, Int.reduceToNat, Int.reduceLT, Int.reduceLE, Int.reduceEq, Int.reduceNeg, Int.reduceBEq, Int.reduceBNe, String.reduceEq, forall_const, ↓vmDA, vmVA, ↓vmQA, vmR, vmRA, ↓vmSA, vmSV, tyS, nuE, SubA.skip, SubA.refl, fr.2, areDigits_v, panSum_v, rdigits_v, rsum_v, panLuhn_v, rLuhn_v, panCheck_v, rCheck_v, panCd_v, rCd_v, isPrefix_v, rMake_v, isLet_v, isId_v, isNm_v, isTm_v, fn, e1, e2, e3, e4, c5, hst, (show IntKind.i64.wrap (0 + 1) = 1 from rfl)]
theorem chgS_w (E : AH) (vb fb : Nat) (p : List UInt8) (len : Nat) (L : List Tok) (hE : VauP E vb p len L) (s : List UInt8) (tw a : Int) (i : Nat) (x : Tok) (hi : posT s L = some i) (hx : L[i]? = some x) (hf : Vm.look E fb = none) (hst : x.st ≠ a) (B_ : AH) (hB_ : SubA ((fb, (Obj.cells #[.int .i64 a] 3)) :: E) B_) : valA Tryd.prog 33 #[.pointer (some ⟨vb, 0, none⟩), .string (bs s), .int .i64 tw, .slice (some ⟨fb, 0, none⟩) 1 1] B_ = some (.int .i64 8) := valA_eq (pureA_at (by kernel_rfl) (chgS_h E vb fb p len L hE s tw a i x hi hx hf hst) hB_)
theorem chgS_v (E : AH) (vb fb : Nat) (p : List UInt8) (len : Nat) (L : List Tok) (hE : VauP E vb p len L) (s : List UInt8) (tw a : Int) (i : Nat) (x : Tok) (hi : posT s L = some i) (hx : L[i]? = some x) (hf : Vm.look E fb = none) (hst : x.st ≠ a) : valA Tryd.prog 33 #[.pointer (some ⟨vb, 0, none⟩), .string (bs s), .int .i64 tw, .slice (some ⟨fb, 0, none⟩) 1 1] ((fb, (Obj.cells #[.int .i64 a] 3)) :: E) = some (.int .i64 8) := valA_eq (pureA_at (by kernel_rfl) (chgS_h E vb fb p len L hE s tw a i x hi hx hf hst) (SubA.refl _))
theorem dom4 {a b c d x : Nat} {o1 o2 o3 o4 p1 p2 p3 p4 : Obj} (h : Vm.look [(a, p1), (b, p2), (c, p3), (d, p4)] x ≠ none) : Vm.look [(a, o1), (b, o2), (c, o3), (d, o4)] x ≠ none := by
  simp only [Vm.look] at h ⊢
  by_cases h1 : a = x
  · simp [h1]
  · by_cases h2 : b = x
    · simp [h1, h2]
    · by_cases h3 : c = x
      · simp [h1, h2, h3]
      · by_cases h4 : d = x
        · simp [h1, h2, h3, h4]
        · simp [h1, h2, h3, h4] at h
theorem dom3s {b c d x : Nat} {o2 o3 o4 p2 p3 p4 : Obj} (h : Vm.look [(b, p2), (c, p3), (d, p4)] x ≠ none) : Vm.look [(b, o2), (c, o3), (d, o4)] x ≠ none := by
  simp only [Vm.look] at h ⊢
  by_cases h2 : b = x
  · simp [h2]
  · by_cases h3 : c = x
    · simp [h2, h3]
    · by_cases h4 : d = x
      · simp [h2, h3, h4]
      · simp [h2, h3, h4] at h
theorem tokOk_set {p : List UInt8} {len : Nat} {L : List Tok} {i : Nat} {x y : Tok} (h : TokOk p len L) (hx : L[i]? = some x) (hy : y.tok = x.tok) : TokOk p len (L.set i y) := by
  obtain ⟨a1, a2, a3, a4, a5, a6, a7⟩ := h
  refine ⟨a1, a2, a3, a4, a5, by simpa using a6, fun j z hz => ?_⟩
  have hi := (List.getElem?_eq_some_iff.1 hx).1
  by_cases hj : i = j
  · subst hj
    rw [List.getElem?_set_self hi] at hz
    cases hz
    have := a7 i x hx
    exact ⟨this.1, hy.trans this.2⟩
  · rw [List.getElem?_set_ne hj] at hz
    exact a7 j z hz
theorem chgT_h (E : AH) (vb fb : Nat) (p : List UInt8) (len : Nat) (L : List Tok) (hE : VauP E vb p len L) (s : List UInt8) (tw a : Int) (i : Nat) (x : Tok) (hi : posT s L = some i) (hx : L[i]? = some x) (hf : Vm.look E fb = none) (hst : x.st = a) : CallA Tryd.prog 33 #[.pointer (some ⟨vb, 0, none⟩), .string (bs s), .int .i64 tw, .slice (some ⟨fb, 0, none⟩) 1 1] ((fb, (Obj.cells #[.int .i64 a] 3)) :: E) (fun u_ A_ => u_ = .int .i64 0 ∧ ∃ E', VauP E' vb p len (L.set i { x with st := tw }) ∧ SubA E' A_ ∧ (∀ b, Vm.look E b ≠ none → Vm.look E' b ≠ none) ∧ ∀ b, Vm.look ((fb, (Obj.cells #[.int .i64 a] 3)) :: E) b ≠ none → Vm.look A_ b ≠ none) := by
  refine callA_of_denA ⟨Tryd.prog, 33, Tryd.f33, 34, [0, 1, 2, 3, 8, 9, 11, 17, 18, 19], [], [], _⟩ (args := [_, _, _, _]) Tryd.func33 rfl (by kernel_rfl) Tryd.ntmps33 (by simp) (by kernel_rfl) ?_
  intro ν fr; have nuE := fr.nu
  obtain ⟨mr, g, cap, cl, cur, es, rfl, hm, ho, g1, g2, g3, hok, hlt, hcr, hcc⟩ := vau_at hE hx
  have e1 : ((vb = mr) = False) ∧ ((mr = vb) = False) := ⟨eq_false g1, eq_false fun e => g1 e.symm⟩
  have e2 : ((vb = g) = False) ∧ ((g = vb) = False) := ⟨eq_false g2, eq_false fun e => g2 e.symm⟩
  have e3 : ((mr = g) = False) ∧ ((g = mr) = False) := ⟨eq_false g3, eq_false fun e => g3 e.symm⟩
  have fn := findS_w vb mr g cap cur es cl p len L s i hm g1 hok.2.2.2.2.2.1 hi _ (SubA.fresh (o := (Obj.cells #[.int .i64 a] 3)) hf (SubA.refl _))
  have e4 : ((fb = g) = False) ∧ ((g = fb) = False) := look_ne (o := (Obj.cells cur 53)) hf (by simp [Vm.look, g2, g3])
  have e5 : ((fb = vb) = False) ∧ ((vb = fb) = False) := look_ne (o := (Obj.cells #[.string (bs p), .int .i64 (len : Int), .slice (some ⟨g, 0, none⟩) L.length cap, .map (some mr)] 63)) hf (by simp [Vm.look])
  have e6 : ((fb = mr) = False) ∧ ((mr = fb) = False) := look_ne (o := .map es cl) hf (by simp [Vm.look, g1])
  have c5 := hcc 5 _ rfl
  simp (maxDischargeDepth := 16) only [argE_nil, argE_cons, ↓vmD, vmV, vmStd, Nat.reduceMul, ↓reduceIte, Nat.reduceAdd, Nat.reduceSub, Nat.reduceEqDiff, Nat.reduceLT, Nat.reduceLeDiff, reduceCtorEq, Int.reduceToNat, Int.reduceLT, Int.reduceLE, Int.reduceEq, Int.reduceNeg, Int.reduceBEq, Int.reduceBNe, String.reduceEq, forall_const, ↓vmDA, vmVA, ↓vmQA, vmR, vmRA, ↓vmSA, vmSV, tyS, nuE, SubA.skip, SubA.refl, fr.2, areDigits_v, panSum_v, rdigits_v, rsum_v, panLuhn_v, rLuhn_v, panCheck_v, rCheck_v, panCd_v, rCd_v, isPrefix_v, rMake_v, isLet_v, isId_v, isNm_v, isTm_v, fn, e1, e2, e3, e4, e5, e6, c5, hst]
  refine LoopA.intro (by kernel_rfl) ?_
  intro ν fr; have nuE := fr.nu
  obtain ⟨hset, hsz⟩ := ho.set tok_len hlt { x with st := tw }
  rw [splice_st tw hcc] at hset
  have sz : (i * 7 + 5 + 1 ≤ cur.size) = True := eq_true (by omega)
  simp (maxDischargeDepth := 16) only [argE_nil, argE_cons, ↓vmD, vmV, vmStd, Nat.reduceMul, ↓reduceIte, Nat.reduceAdd, Nat.reduceSub, Nat.reduceEqDiff, Nat.reduceLT, Nat.reduceLeDiff, reduceCtorEq, Int.reduceToNat, Int.reduceLT, Int.reduceLE, Int.reduceEq, Int.reduceNeg, Int.reduceBEq, Int.reduceBNe, String.reduceEq, forall_const, ↓vmDA, vmVA, ↓vmQA, vmR, vmRA, ↓vmSA, vmSV, tyS, nuE, SubA.skip, SubA.refl, fr.2, areDigits_v, panSum_v, rdigits_v, rsum_v, panLuhn_v, rLuhn_v, panCheck_v, rCheck_v, panCd_v, rCd_v, isPrefix_v, rMake_v, isLet_v, isId_v, isNm_v, isTm_v, fn, e1, e2, e3, e4, e5, e6, c5, hst, sz]
  refine ⟨[(vb, (Obj.cells #[.string (bs p), .int .i64 (len : Int), .slice (some ⟨g, 0, none⟩) L.length cap, .map (some mr)] 63)), (mr, .map es cl), (g, (Obj.cells (cur.setIfInBounds (i * 7 + 5) (.int .i64 tw)) 53))], ⟨mr, (.slice (some ⟨g, 0, none⟩) L.length cap), es, cl, [(g, (Obj.cells (cur.setIfInBounds (i * 7 + 5) (.int .i64 tw)) 53))], rfl, by rw [mapT_set L 0 i { x with st := tw } x hx rfl]; exact hm, hset, g1, by simp [Vm.look, e2], by simp [Vm.look, e3], tokOk_set hok hx rfl⟩, SubA.fresh (by simp [Vm.look, e4, e5, e6]) (SubA.refl _), fun b hb => dom3s hb, fun b hb => dom4 hb⟩

theorem sc_int (a : Int) : sliceCells Tryd.prog 76 1 [(0, .int .i64 a)] = some (3, #[.int .i64 a]) := by kernel_rfl
theorem suspN_h (E : AH) (vb : Nat) (p : List UInt8) (len : Nat) (L : List Tok) (hE : VauP E vb p len L) (s : List UInt8) (hn : posT s L = none) : CallA Tryd.prog 10 #[.pointer (some ⟨vb, 0, none⟩), .string (bs s)] E (fun u_ A_ => u_ = .int .i64 6 ∧ SubA E A_) := by
  refine callA_of_denA ⟨Tryd.prog, 10, Tryd.f10, 9, [0, 1, 4], [], [], _⟩ (args := [_, _]) Tryd.func10 rfl (by kernel_rfl) Tryd.ntmps10 (by simp) (by kernel_rfl) ?_
  intro ν fr; have nuE := fr.nu
  have cv := chgN_v E vb (ν 0) p len L hE s 2 1 hn (fr.2 0)
  simp (maxDischargeDepth := 16) only [argE_nil, argE_cons, ↓vmD, vmV, vmStd, Nat.reduceMul, ↓reduceIte, Nat.reduceAdd, Nat.reduceSub, Nat.reduceEqDiff, Nat.reduceLT, Nat.reduceLeDiff, reduceCtorEq, Int.reduceToNat, Int.reduceLT, Int.reduceLE, Int.reduceEq, Int.reduceNeg, Int.reduceBEq, Int.reduceBNe, String.reduceEq, forall_const, ↓vmDA, vmVA, ↓vmQA, vmR, vmRA, ↓vmSA, vmSV, tyS, nuE, SubA.skip, SubA.refl, fr.2, areDigits_v, panSum_v, rdigits_v, rsum_v, panLuhn_v, rLuhn_v, panCheck_v, rCheck_v, panCd_v, rCd_v, isPrefix_v, rMake_v, isLet_v, isId_v, isNm_v, isTm_v, cv, sc_int]
theorem suspN_w (E : AH) (vb : Nat) (p : List UInt8) (len : Nat) (L : List Tok) (hE : VauP E vb p len L) (s : List UInt8) (hn : posT s L = none) (B_ : AH) (hB_ : SubA E B_) : valA Tryd.prog 10 #[.pointer (some ⟨vb, 0, none⟩), .string (bs s)] B_ = some (.int .i64 6) := valA_eq (pureA_at (by kernel_rfl) (suspN_h E vb p len L hE s hn) hB_)
theorem suspN_v (E : AH) (vb : Nat) (p : List UInt8) (len : Nat) (L : List Tok) (hE : VauP E vb p len L) (s : List UInt8) (hn : posT s L = none) : valA Tryd.prog 10 #[.pointer (some ⟨vb, 0, none⟩), .string (bs s)] E = some (.int .i64 6) := valA_eq (pureA_at (by kernel_rfl) (suspN_h E vb p len L hE s hn) (SubA.refl _))
theorem suspS_h (E : AH) (vb : Nat) (p : List UInt8) (len : Nat) (L : List Tok) (hE : VauP E vb p len L) (s : List UInt8) (i : Nat) (x : Tok) (hi : posT s L = some i) (hx : L[i]? = some x) (hst : x.st ≠ 1) : CallA Tryd.prog 10 #[.pointer (some ⟨vb, 0, none⟩), .string (bs s)] E (fun u_ A_ => u_ = .int .i64 8 ∧ SubA E A_) := by
  refine callA_of_denA ⟨Tryd.prog, 10, Tryd.f10, 9, [0, 1, 4], [], [], _⟩ (args := [_, _]) Tryd.func10 rfl (by kernel_rfl) Tryd.ntmps10 (by simp) (by kernel_rfl) ?_
  intro ν fr; have nuE := fr.nu
  have cv := chgS_v E vb (ν 0) p len L hE s 2 1 i x hi hx (fr.2 0) hst
  simp (maxDischargeDepth := 16) only [argE_nil, argE_cons, ↓vmD, vmV, vmStd, Nat.reduceMul, ↓reduceIte, Nat.reduceAdd, Nat.reduceSub, Nat.reduceEqDiff, Nat.reduceLT, Nat.reduceLeDiff, reduceCtorEq, Int.reduceToNat, Int.reduceLT, Int.reduceLE, Int.reduceEq, Int.reduceNeg, Int.reduceBEq, Int.reduceBNe, String.reduceEq, forall_const, ↓vmDA, vmVA, ↓vmQA, vmR, vmRA, ↓vmSA, vmSV, tyS, nuE, SubA.skip, SubA.refl, fr.2, areDigits_v, panSum_v, rdigits_v, rsum_v, panLuhn_v, rLuhn_v, panCheck_v, rCheck_v, panCd_v, rCd_v, isPrefix_v, rMake_v, isLet_v, isId_v, isNm_v, isTm_v, cv, sc_int]
theorem suspS_w (E : AH) (vb : Nat) (p : List UInt8) (len : Nat) (L : List Tok) (hE : VauP E vb p len L) (s : List UInt8) (i : Nat) (x : Tok) (hi : posT s L = some i) (hx : L[i]? = some x) (hst : x.st ≠ 1) (B_ : AH) (hB_ : SubA E B_) : valA Tryd.prog 10 #[.pointer (some ⟨vb, 0, none⟩), .string (bs s)] B_ = some (.int .i64 8) := valA_eq (pureA_at (by kernel_rfl) (suspS_h E vb p len L hE s i x hi hx hst) hB_)
theorem suspS_v (E : AH) (vb : Nat) (p : List UInt8) (len : Nat) (L : List Tok) (hE : VauP E vb p len L) (s : List UInt8) (i : Nat) (x : Tok) (hi : posT s L = some i) (hx : L[i]? = some x) (hst : x.st ≠ 1) : valA Tryd.prog 10 #[.pointer (some ⟨vb, 0, none⟩), .string (bs s)] E = some (.int .i64 8) := valA_eq (pureA_at (by kernel_rfl) (suspS_h E vb p len L hE s i x hi hx hst) (SubA.refl _))
theorem suspT_h (E : AH) (vb : Nat) (p : List UInt8) (len : Nat) (L : List Tok) (hE : VauP E vb p len L) (s : List UInt8) (i : Nat) (x : Tok) (hi : posT s L = some i) (hx : L[i]? = some x) (hst : x.st = 1) : CallA Tryd.prog 10 #[.pointer (some ⟨vb, 0, none⟩), .string (bs s)] E (fun u_ A_ => u_ = .int .i64 0 ∧ ∃ E', VauP E' vb p len (L.set i { x with st := 2 }) ∧ SubA E' A_ ∧ ∀ b, Vm.look E b ≠ none → Vm.look A_ b ≠ none) := by
  refine callA_of_denA ⟨Tryd.prog, 10, Tryd.f10, 9, [0, 1, 4], [33], [], _⟩ (args := [_, _]) Tryd.func10 rfl (by kernel_rfl) Tryd.ntmps10 (by simp) (by kernel_rfl) ?_
  intro ν fr; have nuE := fr.nu
  simp (maxDischargeDepth := 16) only [argE_nil, argE_cons, ↓vmD, vmV, vmStd, Nat.reduceMul, ↓reduceIte, Nat.reduceAdd, Nat.reduceSub, Nat.reduceEqDiff, Nat.reduceLT, Nat.reduceLeDiff, reduceCtorEq, Int.reduceToNat, Int.reduceLT, Int.reduceLE, Int.reduceEq, Int.reduceNeg, Int.reduceBEq, Int.reduceBNe, String.reduceEq, forall_const, ↓vmDA, vmVA, ↓vmQA, vmR, vmRA, ↓vmSA, vmSV, tyS, nuE, SubA.skip, SubA.refl, fr.2, areDigits_v, panSum_v, rdigits_v, rsum_v, panLuhn_v, rLuhn_v, panCheck_v, rCheck_v, panCd_v, rCd_v, isPrefix_v, rMake_v, isLet_v, isId_v, isNm_v, isTm_v, sc_int]
  refine CallA.use (chgT_h E vb (ν 0) p len L hE s 2 1 i x hi hx (fr.2 0) hst) (SubA.refl _) (by
    rintro v D ⟨_, E', _, hs, _, hd⟩ b hb
    exact hd b hb) [] (SubA.nil _) (fun x hx => absurd rfl hx) ?_
  rintro u D ⟨rfl, E2, hE2, hs2, hd2, _⟩ _
  refine ⟨E2, hs2, ?_⟩
  rw [List.append_nil]
  intro ν2 fr2
  have fr := fr2
  have nuE := fr.nu
  simp (maxDischargeDepth := 16) only [argE_nil, argE_cons, ↓vmD, vmV, vmStd, Nat.reduceMul, ↓reduceIte, Nat.reduceAdd, Nat.reduceSub, Nat.reduceEqDiff, Nat.reduceLT, Nat.reduceLeDiff, reduceCtorEq, Int.reduceToNat, Int.reduceLT, Int.reduceLE, Int.reduceEq, Int.reduceNeg, Int.reduceBEq, Int.reduceBNe, String.reduceEq, forall_const, ↓vmDA, vmVA, ↓vmQA, vmR, vmRA, ↓vmSA, vmSV, tyS, nuE, SubA.skip, SubA.refl, fr.2, areDigits_v, panSum_v, rdigits_v, rsum_v, panLuhn_v, rLuhn_v, panCheck_v, rCheck_v, panCd_v, rCd_v, isPrefix_v, rMake_v, isLet_v, isId_v, isNm_v, isTm_v]
  exact ⟨E2, hE2, SubA.refl _, hd2⟩

end Go.Proofs.YtoonmogjjddeeaaDoor
