/-
Tokens: the walks of the program's Delete, Resume and Replace.
Conditions: none.
-/
import Derived.Test.YtoonmogjjddeeaaDoorTokC
namespace Go.Proofs.YtoonmogjjddeeaaDoor
open Go.Vm
set_option linter.unusedSimpArgs false
set_option linter.unusedVariables false
set_option maxHeartbeats 4000000
set_option maxRecDepth 20000
theorem chqN_h (E : AH) (vb fb : Nat) (p : List UInt8) (len : Nat) (L : List Tok) (hE : VauP E vb p len L) (s : List UInt8) (tw a a2 : Int) (hn : posT s L = none) (hf : Vm.look E fb = none) : CallA Tryd.prog 33 #[.pointer (some ⟨vb, 0, none⟩), .string (bs s), .int .i64 tw, .slice (some ⟨fb, 0, none⟩) 2 2] ((fb, (Obj.cells #[.int .i64 a, .int .i64 a2] 3)) :: E) (fun u_ A_ => u_ = .int .i64 6 ∧ SubA ((fb, (Obj.cells #[.int .i64 a, .int .i64 a2] 3)) :: E) A_) := by
  refine callA_of_denA ⟨Tryd.prog, 33, Tryd.f33, 34, [0, 1, 2, 3, 8, 9, 11, 17, 18, 19], [], [], _⟩ (args := [_, _, _, _]) Tryd.func33 rfl (by kernel_rfl) Tryd.ntmps33 (by simp) (by kernel_rfl) ?_
  intro ν fr; have nuE := fr.nu
  have fn := findN_w E vb p len L hE s hn _ (SubA.fresh (o := (Obj.cells #[.int .i64 a, .int .i64 a2] 3)) hf (SubA.refl _))
  simp (maxDischargeDepth := 16) only [argE_nil, argE_cons, ↓vmD, vmV, vmStd, Nat.reduceMul, ↓reduceIte, Nat.reduceAdd, Nat.reduceSub, Nat.reduceEqDiff, Nat.reduceLT, Nat.reduceLeDiff, reduceCtorEq, Int.reduceToNat, Int.reduceLT, Int.reduceLE, Int.reduceEq, Int.reduceNeg, Int.reduceBEq, Int.reduceBNe, String.reduceEq, forall_const, ↓vmDA, vmVA, ↓vmQA, vmR, vmRA, ↓vmSA, vmSV, tyS, nuE, SubA.skip, SubA.refl, fr.2, areDigits_v, panSum_v, rdigits_v, rsum_v, panLuhn_v, rLuhn_v, panCheck_v, rCheck_v, panCd_v, rCd_v, isPrefix_v, rMake_v, isLet_v, isId_v, isNm_v, isTm_v, fn]
theorem chqN_w (E : AH) (vb fb : Nat) (p : List UInt8) (len : Nat) (L : List Tok) (hE : VauP E vb p len L) (s : List UInt8) (tw a a2 : Int) (hn : posT s L = none) (hf : Vm.look E fb = none) (B_ : AH) (hB_ : SubA ((fb, (Obj.cells #[.int .i64 a, .int .i64 a2] 3)) :: E) B_) : valA Tryd.prog 33 #[.pointer (some ⟨vb, 0, none⟩), .string (bs s), .int .i64 tw, .slice (some ⟨fb, 0, none⟩) 2 2] B_ = some (.int .i64 6) := valA_eq (pureA_at (by kernel_rfl) (chqN_h E vb fb p len L hE s tw a a2 hn hf) hB_)
theorem chqN_v (E : AH) (vb fb : Nat) (p : List UInt8) (len : Nat) (L : List Tok) (hE : VauP E vb p len L) (s : List UInt8) (tw a a2 : Int) (hn : posT s L = none) (hf : Vm.look E fb = none) : valA Tryd.prog 33 #[.pointer (some ⟨vb, 0, none⟩), .string (bs s), .int .i64 tw, .slice (some ⟨fb, 0, none⟩) 2 2] ((fb, (Obj.cells #[.int .i64 a, .int .i64 a2] 3)) :: E) = some (.int .i64 6) := valA_eq (pureA_at (by kernel_rfl) (chqN_h E vb fb p len L hE s tw a a2 hn hf) (SubA.refl _))
theorem chqS_h (E : AH) (vb fb : Nat) (p : List UInt8) (len : Nat) (L : List Tok) (hE : VauP E vb p len L) (s : List UInt8) (tw a a2 : Int) (i : Nat) (x : Tok) (hi : posT s L = some i) (hx : L[i]? = some x) (hf : Vm.look E fb = none) (hst : x.st ≠ a) (hsb : x.st ≠ a2) : CallA Tryd.prog 33 #[.pointer (some ⟨vb, 0, none⟩), .string (bs s), .int .i64 tw, .slice (some ⟨fb, 0, none⟩) 2 2] ((fb, (Obj.cells #[.int .i64 a, .int .i64 a2] 3)) :: E) (fun u_ A_ => u_ = .int .i64 8 ∧ SubA ((fb, (Obj.cells #[.int .i64 a, .int .i64 a2] 3)) :: E) A_) := by
  refine callA_of_denA ⟨Tryd.prog, 33, Tryd.f33, 34, [0, 1, 2, 3, 8, 9, 11, 17, 18, 19], [], [], _⟩ (args := [_, _, _, _]) Tryd.func33 rfl (by kernel_rfl) Tryd.ntmps33 (by simp) (by kernel_rfl) ?_
  intro ν fr; have nuE := fr.nu
  obtain ⟨mr, g, cap, cl, cur, es, rfl, hm, ho, g1, g2, g3, hok, hlt, hcr, hcc⟩ := vau_at hE hx
  have e1 : ((vb = mr) = False) ∧ ((mr = vb) = False) := ⟨eq_false g1, eq_false fun e => g1 e.symm⟩
  have e2 : ((vb = g) = False) ∧ ((g = vb) = False) := ⟨eq_false g2, eq_false fun e => g2 e.symm⟩
  have e3 : ((mr = g) = False) ∧ ((g = mr) = False) := ⟨eq_false g3, eq_false fun e => g3 e.symm⟩
  have fn := findS_w vb mr g cap cur es cl p len L s i hm g1 hok.2.2.2.2.2.1 hi _ (SubA.fresh (o := (Obj.cells #[.int .i64 a, .int .i64 a2] 3)) hf (SubA.refl _))
  have e4 : ((fb = g) = False) ∧ ((g = fb) = False) := look_ne (o := (Obj.cells cur 53)) hf (by simp [Vm.look, g2, g3])
  have c5 := hcc 5 _ rfl
  simp (maxDischargeDepth := 16) only [argE_nil, argE_cons, ↓vmD, vmV, vmStd, Nat.reduceMul, ↓reduceIte, Nat.reduceAdd, Nat.reduceSub, Nat.reduceEqDiff, Nat.reduceLT, Nat.reduceLeDiff, reduceCtorEq, Int.reduceToNat, Int.reduceLT, Int.reduceLE, Int.reduceEq, Int.reduceNeg, Int.reduceBEq, Int.reduceBNe, String.reduceEq, forall_const, ↓vmDA, vmVA, ↓vmQA, vmR, vmRA, ↓vmSA, vmSV, tyS, nuE, SubA.skip, SubA.refl, fr.2, areDigits_v, panSum_v, rdigits_v, rsum_v, panLuhn_v, rLuhn_v, panCheck_v, rCheck_v, panCd_v, rCd_v, isPrefix_v, rMake_v, isLet_v, isId_v, isNm_v, isTm_v, fn, e1, e2, e3, e4, c5, hst]
  refine LoopA.intro (by kernel_rfl) ?_
  intro ν fr; have nuE := fr.nu
  simp (maxDischargeDepth := 16) only [argE_nil, argE_cons, ↓vmD, vmV, vmStd, Nat.reduceMul, ↓reduceIte, Nat.reduceAdd, Nat.reduceSub, Nat.reduceEqDiff, Nat.reduceLT, Nat.reduceLeDiff, reduceCtorEq, Int.reduceToNat, Int.reduceLT, Int.reduceLE, Int.reduceEq, Int.reduceNeg, Int.reduceBEq, Int.reduceBNe, String.reduceEq, forall_const, ↓vmDA, vmVA, ↓vmQA, vmR, vmRA, ↓vmSA, vmSV, tyS, nuE, SubA.skip, SubA.refl, fr.2, areDigits_v, panSum_v, rdigits_v, rsum_v, panLuhn_v, rLuhn_v, panCheck_v, rCheck_v, panCd_v, rCd_v, isPrefix_v, rMake_v, isLet_v, isId_v, isNm_v, isTm_v, fn, e1, e2, e3, e4, c5, hst, hsb]
  refine LoopA.intro (by kernel_rfl) ?_
  intro ν fr; have nuE := fr.nu
  simp (maxDischargeDepth := 16) only [argE_nil, argE_cons, ↓vmD, vmV, vmStd, Nat.reduceMul, ↓reduceIte, Nat.reduceAdd, Nat.reduceSub, Nat.reduceEqDiff, Nat.reduceLT, Nat.reduceLeDiff, reduceCtorEq, Int.reduceToNat, Int.reduceLT, Int.reduceLE, Int.reduceEq, Int.reduceNeg, Int.reduceBEq, Int.reduceBNe, String.reduceEq, forall_const, ↓vmDA, vmVA, ↓vmQA, vmR, vmRA, ↓vmSA, vmSV, tyS, nuE, SubA.skip, SubA.refl, fr.2, areDigits_v, panSum_v, rdigits_v, rsum_v, panLuhn_v, rLuhn_v, panCheck_v, rCheck_v, panCd_v, rCd_v, isPrefix_v, rMake_v, isLet_v, isId_v, isNm_v, isTm_v, fn, e1, e2, e3, e4, c5, hst, hsb, (show IntKind.i64.wrap (0 + 1) = 1 from rfl)]
  refine LoopA.intro (by kernel_rfl) ?_
  intro ν fr; have nuE := fr.nu
  simp (maxDischargeDepth := 16) only [argE_nil, argE_cons, ↓vmD, vmV, vmStd, Nat.reduceMul, ↓reduceIte, Nat.reduceAdd, Nat.reduceSub, Nat.reduceEqDiff, Nat.reduceLT, Nat.reduceLeDiff, reduceCtorEq, Int.reduceToNat, Int.reduceLT, Int.reduceLE, Int.reduceEq, Int.reduceNeg, Int.reduceBEq, Int.reduceBNe, String.reduceEq, forall_const, ↓vmDA, vmVA, ↓vmQA, vmR, vmRA, ↓vmSA, vmSV, tyS, nuE, SubA.skip, SubA.refl, fr.2, areDigits_v, panSum_v, rdigits_v, rsum_v, panLuhn_v, rLuhn_v, panCheck_v, rCheck_v, panCd_v, rCd_v, isPrefix_v, rMake_v, isLet_v, isId_v, isNm_v, isTm_v, fn, e1, e2, e3, e4, c5, hst, hsb, (show IntKind.i64.wrap (0 + 1) = 1 from rfl), (show IntKind.i64.wrap (1 + 1) = 2 from rfl)]
theorem chqS_w (E : AH) (vb fb : Nat) (p : List UInt8) (len : Nat) (L : List Tok) (hE : VauP E vb p len L) (s : List UInt8) (tw a a2 : Int) (i : Nat) (x : Tok) (hi : posT s L = some i) (hx : L[i]? = some x) (hf : Vm.look E fb = none) (hst : x.st ≠ a) (hsb : x.st ≠ a2) (B_ : AH) (hB_ : SubA ((fb, (Obj.cells #[.int .i64 a, .int .i64 a2] 3)) :: E) B_) : valA Tryd.prog 33 #[.pointer (some ⟨vb, 0, none⟩), .string (bs s), .int .i64 tw, .slice (some ⟨fb, 0, none⟩) 2 2] B_ = some (.int .i64 8) := valA_eq (pureA_at (by kernel_rfl) (chqS_h E vb fb p len L hE s tw a a2 i x hi hx hf hst hsb) hB_)
theorem chqS_v (E : AH) (vb fb : Nat) (p : List UInt8) (len : Nat) (L : List Tok) (hE : VauP E vb p len L) (s : List UInt8) (tw a a2 : Int) (i : Nat) (x : Tok) (hi : posT s L = some i) (hx : L[i]? = some x) (hf : Vm.look E fb = none) (hst : x.st ≠ a) (hsb : x.st ≠ a2) : valA Tryd.prog 33 #[.pointer (some ⟨vb, 0, none⟩), .string (bs s), .int .i64 tw, .slice (some ⟨fb, 0, none⟩) 2 2] ((fb, (Obj.cells #[.int .i64 a, .int .i64 a2] 3)) :: E) = some (.int .i64 8) := valA_eq (pureA_at (by kernel_rfl) (chqS_h E vb fb p len L hE s tw a a2 i x hi hx hf hst hsb) (SubA.refl _))
theorem chqT_h (E : AH) (vb fb : Nat) (p : List UInt8) (len : Nat) (L : List Tok) (hE : VauP E vb p len L) (s : List UInt8) (tw a a2 : Int) (i : Nat) (x : Tok) (hi : posT s L = some i) (hx : L[i]? = some x) (hf : Vm.look E fb = none) (hst : x.st = a) : CallA Tryd.prog 33 #[.pointer (some ⟨vb, 0, none⟩), .string (bs s), .int .i64 tw, .slice (some ⟨fb, 0, none⟩) 2 2] ((fb, (Obj.cells #[.int .i64 a, .int .i64 a2] 3)) :: E) (fun u_ A_ => u_ = .int .i64 0 ∧ ∃ E', VauP E' vb p len (L.set i { x with st := tw }) ∧ SubA E' A_ ∧ (∀ b, Vm.look E b ≠ none → Vm.look E' b ≠ none) ∧ ∀ b, Vm.look ((fb, (Obj.cells #[.int .i64 a, .int .i64 a2] 3)) :: E) b ≠ none → Vm.look A_ b ≠ none) := by
  refine callA_of_denA ⟨Tryd.prog, 33, Tryd.f33, 34, [0, 1, 2, 3, 8, 9, 11, 17, 18, 19], [], [], _⟩ (args := [_, _, _, _]) Tryd.func33 rfl (by kernel_rfl) Tryd.ntmps33 (by simp) (by kernel_rfl) ?_
  intro ν fr; have nuE := fr.nu
  obtain ⟨mr, g, cap, cl, cur, es, rfl, hm, ho, g1, g2, g3, hok, hlt, hcr, hcc⟩ := vau_at hE hx
  have e1 : ((vb = mr) = False) ∧ ((mr = vb) = False) := ⟨eq_false g1, eq_false fun e => g1 e.symm⟩
  have e2 : ((vb = g) = False) ∧ ((g = vb) = False) := ⟨eq_false g2, eq_false fun e => g2 e.symm⟩
  have e3 : ((mr = g) = False) ∧ ((g = mr) = False) := ⟨eq_false g3, eq_false fun e => g3 e.symm⟩
  have fn := findS_w vb mr g cap cur es cl p len L s i hm g1 hok.2.2.2.2.2.1 hi _ (SubA.fresh (o := (Obj.cells #[.int .i64 a, .int .i64 a2] 3)) hf (SubA.refl _))
  have e4 : ((fb = g) = False) ∧ ((g = fb) = False) := look_ne (o := (Obj.cells cur 53)) hf (by simp [Vm.look, g2, g3])
  have e5 : ((fb = vb) = False) ∧ ((vb = fb) = False) := look_ne (o := (Obj.cells #[.string (bs p), .int .i64 (len : Int), .slice (some ⟨g, 0, none⟩) L.length cap, .map (some mr)] 63)) hf (by simp [Vm.look])
  have e6 : ((fb = mr) = False) ∧ ((mr = fb) = False) := look_ne (o := .map es cl) hf (by simp [Vm.look, g1])
  have c5 := hcc 5 _ rfl
  simp (maxDischargeDepth := 16) only [argE_nil, argE_cons, ↓vmD, vmV, vmStd, Nat.reduceMul, ↓reduceIte, Nat.reduceAdd, Nat.reduceSub, Nat.reduceEqDiff, Nat.reduceLT, Nat.reduceLeDiff, reduceCtorEq, Int.reduceToNat, Int.reduceLT, Int.reduceLE, Int.reduceEq, Int.reduceNeg, Int.reduceBEq, Int.reduceBNe, String.reduceEq, forall_const, ↓vmDA, vmVA, ↓vmQA, vmR, vmRA, ↓vmSA, vmSV, tyS, nuE, SubA.skip, SubA.refl, fr.2, areDigits_v, panSum_v, rdigits_v, rsum_v, panLuhn_v, rLuhn_v, panCheck_v, rCheck_v, panCd_v, rCd_v, isPrefix_v, rMake_v, isLet_v, isId_v, isNm_v, isTm_v, fn, e1, e2, e3, e4, e5, e6, c5, hst]
  refine LoopA.intro (by kernel_rfl) ?_
  intro ν fr; have nuE := fr.nu
  obtain ⟨hset, hsz⟩ := ho.set tok_len hlt { x with st := tw }
  rw [splice_st tw hcc] at hset
  have sz : (i * 7 + 5 + 1 ≤ cur.size) = True := eq_true (by omega)
  simp (maxDischargeDepth := 16) only [argE_nil, argE_cons, ↓vmD, vmV, vmStd, Nat.reduceMul, ↓reduceIte, Nat.reduceAdd, Nat.reduceSub, Nat.reduceEqDiff, Nat.reduceLT, Nat.reduceLeDiff, reduceCtorEq, Int.reduceToNat, Int.reduceLT, Int.reduceLE, Int.reduceEq, Int.reduceNeg, Int.reduceBEq, Int.reduceBNe, String.reduceEq, forall_const, ↓vmDA, vmVA, ↓vmQA, vmR, vmRA, ↓vmSA, vmSV, tyS, nuE, SubA.skip, SubA.refl, fr.2, areDigits_v, panSum_v, rdigits_v, rsum_v, panLuhn_v, rLuhn_v, panCheck_v, rCheck_v, panCd_v, rCd_v, isPrefix_v, rMake_v, isLet_v, isId_v, isNm_v, isTm_v, fn, e1, e2, e3, e4, e5, e6, c5, hst, sz]
  refine ⟨[(vb, (Obj.cells #[.string (bs p), .int .i64 (len : Int), .slice (some ⟨g, 0, none⟩) L.length cap, .map (some mr)] 63)), (mr, .map es cl), (g, (Obj.cells (cur.setIfInBounds (i * 7 + 5) (.int .i64 tw)) 53))], ⟨mr, (.slice (some ⟨g, 0, none⟩) L.length cap), es, cl, [(g, (Obj.cells (cur.setIfInBounds (i * 7 + 5) (.int .i64 tw)) 53))], rfl, by rw [mapT_set L 0 i { x with st := tw } x hx rfl]; exact hm, hset, g1, by simp [Vm.look, e2], by simp [Vm.look, e3], tokOk_set hok hx rfl⟩, SubA.fresh (by simp [Vm.look, e4, e5, e6]) (SubA.refl _), fun b hb => dom3s hb, fun b hb => dom4 hb⟩

theorem sc_int2 (a b : Int) : sliceCells Tryd.prog 76 2 [(0, .int .i64 a), (1, .int .i64 b)] = some (3, #[.int .i64 a, .int .i64 b]) := by kernel_rfl
theorem delN_h (E : AH) (vb : Nat) (p : List UInt8) (len : Nat) (L : List Tok) (hE : VauP E vb p len L) (s : List UInt8) (hn : posT s L = none) : CallA Tryd.prog 13 #[.pointer (some ⟨vb, 0, none⟩), .string (bs s)] E (fun u_ A_ => u_ = .int .i64 6 ∧ SubA E A_) := by
  refine callA_of_denA ⟨Tryd.prog, 13, Tryd.f13, 9, [0, 1, 4], [], [], _⟩ (args := [_, _]) Tryd.func13 rfl (by kernel_rfl) Tryd.ntmps13 (by simp) (by kernel_rfl) ?_
  intro ν fr; have nuE := fr.nu
  have cv := chqN_v E vb (ν 0) p len L hE s 3 1 2 hn (fr.2 0)
  simp (maxDischargeDepth := 16) only [argE_nil, argE_cons, ↓vmD, vmV, vmStd, Nat.reduceMul, ↓reduceIte, Nat.reduceAdd, Nat.reduceSub, Nat.reduceEqDiff, Nat.reduceLT, Nat.reduceLeDiff, reduceCtorEq, Int.reduceToNat, Int.reduceLT, Int.reduceLE, Int.reduceEq, Int.reduceNeg, Int.reduceBEq, Int.reduceBNe, String.reduceEq, forall_const, ↓vmDA, vmVA, ↓vmQA, vmR, vmRA, ↓vmSA, vmSV, tyS, nuE, SubA.skip, SubA.refl, fr.2, areDigits_v, panSum_v, rdigits_v, rsum_v, panLuhn_v, rLuhn_v, panCheck_v, rCheck_v, panCd_v, rCd_v, isPrefix_v, rMake_v, isLet_v, isId_v, isNm_v, isTm_v, cv, sc_int2]
theorem delN_w (E : AH) (vb : Nat) (p : List UInt8) (len : Nat) (L : List Tok) (hE : VauP E vb p len L) (s : List UInt8) (hn : posT s L = none) (B_ : AH) (hB_ : SubA E B_) : valA Tryd.prog 13 #[.pointer (some ⟨vb, 0, none⟩), .string (bs s)] B_ = some (.int .i64 6) := valA_eq (pureA_at (by kernel_rfl) (delN_h E vb p len L hE s hn) hB_)
theorem delN_v (E : AH) (vb : Nat) (p : List UInt8) (len : Nat) (L : List Tok) (hE : VauP E vb p len L) (s : List UInt8) (hn : posT s L = none) : valA Tryd.prog 13 #[.pointer (some ⟨vb, 0, none⟩), .string (bs s)] E = some (.int .i64 6) := valA_eq (pureA_at (by kernel_rfl) (delN_h E vb p len L hE s hn) (SubA.refl _))
theorem delS_h (E : AH) (vb : Nat) (p : List UInt8) (len : Nat) (L : List Tok) (hE : VauP E vb p len L) (s : List UInt8) (i : Nat) (x : Tok) (hi : posT s L = some i) (hx : L[i]? = some x) (hst : x.st ≠ 1) (hsb : x.st ≠ 2) : CallA Tryd.prog 13 #[.pointer (some ⟨vb, 0, none⟩), .string (bs s)] E (fun u_ A_ => u_ = .int .i64 8 ∧ SubA E A_) := by
  refine callA_of_denA ⟨Tryd.prog, 13, Tryd.f13, 9, [0, 1, 4], [], [], _⟩ (args := [_, _]) Tryd.func13 rfl (by kernel_rfl) Tryd.ntmps13 (by simp) (by kernel_rfl) ?_
  intro ν fr; have nuE := fr.nu
  have cv := chqS_v E vb (ν 0) p len L hE s 3 1 2 i x hi hx (fr.2 0) hst hsb
  simp (maxDischargeDepth := 16) only [argE_nil, argE_cons, ↓vmD, vmV, vmStd, Nat.reduceMul, ↓reduceIte, Nat.reduceAdd, Nat.reduceSub, Nat.reduceEqDiff, Nat.reduceLT, Nat.reduceLeDiff, reduceCtorEq, Int.reduceToNat, Int.reduceLT, Int.reduceLE, Int.reduceEq, Int.reduceNeg, Int.reduceBEq, Int.reduceBNe, String.reduceEq, forall_const, ↓vmDA, vmVA, ↓vmQA, vmR, vmRA, ↓vmSA, vmSV, tyS, nuE, SubA.skip, SubA.refl, fr.2, areDigits_v, panSum_v, rdigits_v, rsum_v, panLuhn_v, rLuhn_v, panCheck_v, rCheck_v, panCd_v, rCd_v, isPrefix_v, rMake_v, isLet_v, isId_v, isNm_v, isTm_v, cv, sc_int2]
theorem delS_w (E : AH) (vb : Nat) (p : List UInt8) (len : Nat) (L : List Tok) (hE : VauP E vb p len L) (s : List UInt8) (i : Nat) (x : Tok) (hi : posT s L = some i) (hx : L[i]? = some x) (hst : x.st ≠ 1) (hsb : x.st ≠ 2) (B_ : AH) (hB_ : SubA E B_) : valA Tryd.prog 13 #[.pointer (some ⟨vb, 0, none⟩), .string (bs s)] B_ = some (.int .i64 8) := valA_eq (pureA_at (by kernel_rfl) (delS_h E vb p len L hE s i x hi hx hst hsb) hB_)
theorem delS_v (E : AH) (vb : Nat) (p : List UInt8) (len : Nat) (L : List Tok) (hE : VauP E vb p len L) (s : List UInt8) (i : Nat) (x : Tok) (hi : posT s L = some i) (hx : L[i]? = some x) (hst : x.st ≠ 1) (hsb : x.st ≠ 2) : valA Tryd.prog 13 #[.pointer (some ⟨vb, 0, none⟩), .string (bs s)] E = some (.int .i64 8) := valA_eq (pureA_at (by kernel_rfl) (delS_h E vb p len L hE s i x hi hx hst hsb) (SubA.refl _))
theorem delT_h (E : AH) (vb : Nat) (p : List UInt8) (len : Nat) (L : List Tok) (hE : VauP E vb p len L) (s : List UInt8) (i : Nat) (x : Tok) (hi : posT s L = some i) (hx : L[i]? = some x) (hst : x.st = 1) : CallA Tryd.prog 13 #[.pointer (some ⟨vb, 0, none⟩), .string (bs s)] E (fun u_ A_ => u_ = .int .i64 0 ∧ ∃ E', VauP E' vb p len (L.set i { x with st := 3 }) ∧ SubA E' A_ ∧ ∀ b, Vm.look E b ≠ none → Vm.look A_ b ≠ none) := by
  refine callA_of_denA ⟨Tryd.prog, 13, Tryd.f13, 9, [0, 1, 4], [33], [], _⟩ (args := [_, _]) Tryd.func13 rfl (by kernel_rfl) Tryd.ntmps13 (by simp) (by kernel_rfl) ?_
  intro ν fr; have nuE := fr.nu
  simp (maxDischargeDepth := 16) only [argE_nil, argE_cons, ↓vmD, vmV, vmStd, Nat.reduceMul, ↓reduceIte, Nat.reduceAdd, Nat.reduceSub, Nat.reduceEqDiff, Nat.reduceLT, Nat.reduceLeDiff, reduceCtorEq, Int.reduceToNat, Int.reduceLT, Int.reduceLE, Int.reduceEq, Int.reduceNeg, Int.reduceBEq, Int.reduceBNe, String.reduceEq, forall_const, ↓vmDA, vmVA, ↓vmQA, vmR, vmRA, ↓vmSA, vmSV, tyS, nuE, SubA.skip, SubA.refl, fr.2, areDigits_v, panSum_v, rdigits_v, rsum_v, panLuhn_v, rLuhn_v, panCheck_v, rCheck_v, panCd_v, rCd_v, isPrefix_v, rMake_v, isLet_v, isId_v, isNm_v, isTm_v, sc_int2]
  refine CallA.use (chqT_h E vb (ν 0) p len L hE s 3 1 2 i x hi hx (fr.2 0) hst) (SubA.refl _) (by
    rintro v D ⟨_, E', _, hs, _, hd⟩ b hb
    exact hd b hb) [] (SubA.nil _) (fun x hx => absurd rfl hx) ?_
  rintro u D ⟨rfl, E2, hE2, hs2, hd2, _⟩ _
  refine ⟨E2, hs2, ?_⟩
  rw [List.append_nil]
  intro ν2 fr2
  have fr := fr2
  have nuE := fr.nu
  simp (maxDischargeDepth := 16) only [argE_nil, argE_cons, ↓vmD, vmV, vmStd, Nat.reduceMul, ↓reduceIte, Nat.reduceAdd, Nat.reduceSub, Nat.reduceEqDiff, Nat.reduceLT, Nat.reduceLeDiff, reduceCtorEq, Int.reduceToNat, Int.reduceLT, Int.reduceLE, Int.reduceEq, Int.reduceNeg, Int.reduceBEq, Int.reduceBNe, String.reduceEq, forall_const, ↓vmDA, vmVA, ↓vmQA, vmR, vmRA, ↓vmSA, vmSV, tyS, nuE, SubA.skip, SubA.refl, fr.2, areDigits_v, panSum_v, rdigits_v, rsum_v, panLuhn_v, rLuhn_v, panCheck_v, rCheck_v, panCd_v, rCd_v, isPrefix_v, rMake_v, isLet_v, isId_v, isNm_v, isTm_v]
  exact ⟨E2, hE2, SubA.refl _, hd2⟩

theorem resuN_h (E : AH) (vb : Nat) (p : List UInt8) (len : Nat) (L : List Tok) (hE : VauP E vb p len L) (s : List UInt8) (hn : posT s L = none) : CallA Tryd.prog 14 #[.pointer (some ⟨vb, 0, none⟩), .string (bs s)] E (fun u_ A_ => u_ = .int .i64 6 ∧ SubA E A_) := by
  refine callA_of_denA ⟨Tryd.prog, 14, Tryd.f14, 9, [0, 1, 4], [], [], _⟩ (args := [_, _]) Tryd.func14 rfl (by kernel_rfl) Tryd.ntmps14 (by simp) (by kernel_rfl) ?_
  intro ν fr; have nuE := fr.nu
  have cv := chgN_v E vb (ν 0) p len L hE s 1 2 hn (fr.2 0)
  simp (maxDischargeDepth := 16) only [argE_nil, argE_cons, ↓vmD, vmV, vmStd, Nat.reduceMul, ↓reduceIte, Nat.reduceAdd, Nat.reduceSub, Nat.reduceEqDiff, Nat.reduceLT, Nat.reduceLeDiff, reduceCtorEq, Int.reduceToNat, Int.reduceLT, Int.reduceLE, Int.reduceEq, Int.reduceNeg, Int.reduceBEq, Int.reduceBNe, String.reduceEq, forall_const, ↓vmDA, vmVA, ↓vmQA, vmR, vmRA, ↓vmSA, vmSV, tyS, nuE, SubA.skip, SubA.refl, fr.2, areDigits_v, panSum_v, rdigits_v, rsum_v, panLuhn_v, rLuhn_v, panCheck_v, rCheck_v, panCd_v, rCd_v, isPrefix_v, rMake_v, isLet_v, isId_v, isNm_v, isTm_v, cv, sc_int]
theorem resuN_w (E : AH) (vb : Nat) (p : List UInt8) (len : Nat) (L : List Tok) (hE : VauP E vb p len L) (s : List UInt8) (hn : posT s L = none) (B_ : AH) (hB_ : SubA E B_) : valA Tryd.prog 14 #[.pointer (some ⟨vb, 0, none⟩), .string (bs s)] B_ = some (.int .i64 6) := valA_eq (pureA_at (by kernel_rfl) (resuN_h E vb p len L hE s hn) hB_)
theorem resuN_v (E : AH) (vb : Nat) (p : List UInt8) (len : Nat) (L : List Tok) (hE : VauP E vb p len L) (s : List UInt8) (hn : posT s L = none) : valA Tryd.prog 14 #[.pointer (some ⟨vb, 0, none⟩), .string (bs s)] E = some (.int .i64 6) := valA_eq (pureA_at (by kernel_rfl) (resuN_h E vb p len L hE s hn) (SubA.refl _))
theorem resuS_h (E : AH) (vb : Nat) (p : List UInt8) (len : Nat) (L : List Tok) (hE : VauP E vb p len L) (s : List UInt8) (i : Nat) (x : Tok) (hi : posT s L = some i) (hx : L[i]? = some x) (hst : x.st ≠ 2) : CallA Tryd.prog 14 #[.pointer (some ⟨vb, 0, none⟩), .string (bs s)] E (fun u_ A_ => u_ = .int .i64 8 ∧ SubA E A_) := by
  refine callA_of_denA ⟨Tryd.prog, 14, Tryd.f14, 9, [0, 1, 4], [], [], _⟩ (args := [_, _]) Tryd.func14 rfl (by kernel_rfl) Tryd.ntmps14 (by simp) (by kernel_rfl) ?_
  intro ν fr; have nuE := fr.nu
  have cv := chgS_v E vb (ν 0) p len L hE s 1 2 i x hi hx (fr.2 0) hst
  simp (maxDischargeDepth := 16) only [argE_nil, argE_cons, ↓vmD, vmV, vmStd, Nat.reduceMul, ↓reduceIte, Nat.reduceAdd, Nat.reduceSub, Nat.reduceEqDiff, Nat.reduceLT, Nat.reduceLeDiff, reduceCtorEq, Int.reduceToNat, Int.reduceLT, Int.reduceLE, Int.reduceEq, Int.reduceNeg, Int.reduceBEq, Int.reduceBNe, String.reduceEq, forall_const, ↓vmDA, vmVA, ↓vmQA, vmR, vmRA, ↓vmSA, vmSV, tyS, nuE, SubA.skip, SubA.refl, fr.2, areDigits_v, panSum_v, rdigits_v, rsum_v, panLuhn_v, rLuhn_v, panCheck_v, rCheck_v, panCd_v, rCd_v, isPrefix_v, rMake_v, isLet_v, isId_v, isNm_v, isTm_v, cv, sc_int]
theorem resuS_w (E : AH) (vb : Nat) (p : List UInt8) (len : Nat) (L : List Tok) (hE : VauP E vb p len L) (s : List UInt8) (i : Nat) (x : Tok) (hi : posT s L = some i) (hx : L[i]? = some x) (hst : x.st ≠ 2) (B_ : AH) (hB_ : SubA E B_) : valA Tryd.prog 14 #[.pointer (some ⟨vb, 0, none⟩), .string (bs s)] B_ = some (.int .i64 8) := valA_eq (pureA_at (by kernel_rfl) (resuS_h E vb p len L hE s i x hi hx hst) hB_)
theorem resuS_v (E : AH) (vb : Nat) (p : List UInt8) (len : Nat) (L : List Tok) (hE : VauP E vb p len L) (s : List UInt8) (i : Nat) (x : Tok) (hi : posT s L = some i) (hx : L[i]? = some x) (hst : x.st ≠ 2) : valA Tryd.prog 14 #[.pointer (some ⟨vb, 0, none⟩), .string (bs s)] E = some (.int .i64 8) := valA_eq (pureA_at (by kernel_rfl) (resuS_h E vb p len L hE s i x hi hx hst) (SubA.refl _))
theorem resuT_h (E : AH) (vb : Nat) (p : List UInt8) (len : Nat) (L : List Tok) (hE : VauP E vb p len L) (s : List UInt8) (i : Nat) (x : Tok) (hi : posT s L = some i) (hx : L[i]? = some x) (hst : x.st = 2) : CallA Tryd.prog 14 #[.pointer (some ⟨vb, 0, none⟩), .string (bs s)] E (fun u_ A_ => u_ = .int .i64 0 ∧ ∃ E', VauP E' vb p len (L.set i { x with st := 1 }) ∧ SubA E' A_ ∧ ∀ b, Vm.look E b ≠ none → Vm.look A_ b ≠ none) := by
  refine callA_of_denA ⟨Tryd.prog, 14, Tryd.f14, 9, [0, 1, 4], [33], [], _⟩ (args := [_, _]) Tryd.func14 rfl (by kernel_rfl) Tryd.ntmps14 (by simp) (by kernel_rfl) ?_
  intro ν fr; have nuE := fr.nu
  simp (maxDischargeDepth := 16) only [argE_nil, argE_cons, ↓vmD, vmV, vmStd, Nat.reduceMul, ↓reduceIte, Nat.reduceAdd, Nat.reduceSub, Nat.reduceEqDiff, Nat.reduceLT, Nat.reduceLeDiff, reduceCtorEq, Int.reduceToNat, Int.reduceLT, Int.reduceLE, Int.reduceEq, Int.reduceNeg, Int.reduceBEq, Int.reduceBNe, String.reduceEq, forall_const, ↓vmDA, vmVA, ↓vmQA, vmR, vmRA, ↓vmSA, vmSV, tyS, nuE, SubA.skip, SubA.refl, fr.2, areDigits_v, panSum_v, rdigits_v, rsum_v, panLuhn_v, rLuhn_v, panCheck_v, rCheck_v, panCd_v, rCd_v, isPrefix_v, rMake_v, isLet_v, isId_v, isNm_v, isTm_v, sc_int]
  refine CallA.use (chgT_h E vb (ν 0) p len L hE s 1 2 i x hi hx (fr.2 0) hst) (SubA.refl _) (by
    rintro v D ⟨_, E', _, hs, _, hd⟩ b hb
    exact hd b hb) [] (SubA.nil _) (fun x hx => absurd rfl hx) ?_
  rintro u D ⟨rfl, E2, hE2, hs2, hd2, _⟩ _
  refine ⟨E2, hs2, ?_⟩
  rw [List.append_nil]
  intro ν2 fr2
  have fr := fr2
  have nuE := fr.nu
  simp (maxDischargeDepth := 16) only [argE_nil, argE_cons, ↓vmD, vmV, vmStd, Nat.reduceMul, ↓reduceIte, Nat.reduceAdd, Nat.reduceSub, Nat.reduceEqDiff, Nat.reduceLT, Nat.reduceLeDiff, reduceCtorEq, Int.reduceToNat, Int.reduceLT, Int.reduceLE, Int.reduceEq, Int.reduceNeg, Int.reduceBEq, Int.reduceBNe, String.reduceEq, forall_const, ↓vmDA, vmVA, ↓vmQA, vmR, vmRA, ↓vmSA, vmSV, tyS, nuE, SubA.skip, SubA.refl, fr.2, areDigits_v, panSum_v, rdigits_v, rsum_v, panLuhn_v, rLuhn_v, panCheck_v, rCheck_v, panCd_v, rCd_v, isPrefix_v, rMake_v, isLet_v, isId_v, isNm_v, isTm_v]
  exact ⟨E2, hE2, SubA.refl _, hd2⟩

theorem replD_h (E : AH) (vb : Nat) (p : List UInt8) (len : Nat) (L : List Tok) (hE : VauP E vb p len L) (s num : List UInt8) (i : Nat) (x : Tok) (hi : posT s L = some i) (hx : L[i]? = some x) (hst : x.st = 3) : CallA Tryd.prog 15 #[.pointer (some ⟨vb, 0, none⟩), .string (bs s), .string (bs num)] E (fun u_ A_ => u_ = .int .i64 8 ∧ SubA E A_) := by
  refine callA_of_denA ⟨Tryd.prog, 15, Tryd.f15, 29, [0, 1, 2, 6, 7, 8], [], [], _⟩ (args := [_, _, _]) Tryd.func15 rfl (by kernel_rfl) Tryd.ntmps15 (by simp) (by kernel_rfl) ?_
  intro ν fr; have nuE := fr.nu
  obtain ⟨mr, g, cap, cl, cur, es, rfl, hm, ho, g1, g2, g3, hok, hlt, hcr, hcc⟩ := vau_at hE hx
  have e1 : ((vb = mr) = False) ∧ ((mr = vb) = False) := ⟨eq_false g1, eq_false fun e => g1 e.symm⟩
  have e2 : ((vb = g) = False) ∧ ((g = vb) = False) := ⟨eq_false g2, eq_false fun e => g2 e.symm⟩
  have e3 : ((mr = g) = False) ∧ ((g = mr) = False) := ⟨eq_false g3, eq_false fun e => g3 e.symm⟩
  have fn := findS_v vb mr g cap cur es cl p len L s i hm g1 hok.2.2.2.2.2.1 hi
  have c5 := hcc 5 _ rfl
  simp (maxDischargeDepth := 16) only [argE_nil, argE_cons, ↓vmD, vmV, vmStd, Nat.reduceMul, ↓reduceIte, Nat.reduceAdd, Nat.reduceSub, Nat.reduceEqDiff, Nat.reduceLT, Nat.reduceLeDiff, reduceCtorEq, Int.reduceToNat, Int.reduceLT, Int.reduceLE, Int.reduceEq, Int.reduceNeg, Int.reduceBEq, Int.reduceBNe, String.reduceEq, forall_const, ↓vmDA, vmVA, ↓vmQA, vmR, vmRA, ↓vmSA, vmSV, tyS, nuE, SubA.skip, SubA.refl, fr.2, areDigits_v, panSum_v, rdigits_v, rsum_v, panLuhn_v, rLuhn_v, panCheck_v, rCheck_v, panCd_v, rCd_v, isPrefix_v, rMake_v, isLet_v, isId_v, isNm_v, isTm_v, fn, e1, e2, e3, c5, hst]
theorem replD_w (E : AH) (vb : Nat) (p : List UInt8) (len : Nat) (L : List Tok) (hE : VauP E vb p len L) (s num : List UInt8) (i : Nat) (x : Tok) (hi : posT s L = some i) (hx : L[i]? = some x) (hst : x.st = 3) (B_ : AH) (hB_ : SubA E B_) : valA Tryd.prog 15 #[.pointer (some ⟨vb, 0, none⟩), .string (bs s), .string (bs num)] B_ = some (.int .i64 8) := valA_eq (pureA_at (by kernel_rfl) (replD_h E vb p len L hE s num i x hi hx hst) hB_)
theorem replD_v (E : AH) (vb : Nat) (p : List UInt8) (len : Nat) (L : List Tok) (hE : VauP E vb p len L) (s num : List UInt8) (i : Nat) (x : Tok) (hi : posT s L = some i) (hx : L[i]? = some x) (hst : x.st = 3) : valA Tryd.prog 15 #[.pointer (some ⟨vb, 0, none⟩), .string (bs s), .string (bs num)] E = some (.int .i64 8) := valA_eq (pureA_at (by kernel_rfl) (replD_h E vb p len L hE s num i x hi hx hst) (SubA.refl _))
end Go.Proofs.YtoonmogjjddeeaaDoor
