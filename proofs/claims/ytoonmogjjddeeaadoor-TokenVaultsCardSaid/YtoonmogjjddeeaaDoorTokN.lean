/-
Tokens: the walks of Get, Of, Replace and Delete, and of a call of either vault.
Conditions: none.
-/
import Derived.Test.YtoonmogjjddeeaaDoorTokG
import Derived.Test.YtoonmogjjddeeaaDoorTokO
namespace Go.Proofs.YtoonmogjjddeeaaDoor
open Go.Vm
set_option linter.unusedSimpArgs false
set_option linter.unusedVariables false
set_option maxHeartbeats 4000000
set_option maxRecDepth 20000
theorem VauP.out {E : AH} {vb : Nat} {p : List UInt8} {len : Nat} {L : List Tok} (hE : VauP E vb p len L) : ∃ (q : Option Addr) (cap mr : Nat), Vm.look E vb = some (Obj.cells #[.string (bs p), .int .i64 (len : Int), .slice q L.length cap, .map (some mr)] 63) ∧ StR tokC 7 E q L ∧ TokOk p len L := by
  obtain ⟨mr, v, es, cl, Bk, rfl, hm, ho, h1, h2, h3, h4⟩ := hE
  obtain ⟨q, cap, rfl, hcap, hs⟩ := ho.read tok_len
  exact ⟨q, cap, mr, by simp [Vm.look], hs.mono (SubA.skip (by simp [Vm.look, h2, (fun e => h1 e.symm : ¬ mr = vb)]) (SubA.skip h3 (SubA.refl _))), h4⟩
theorem getP_h (E : AH) (vb : Nat) (p : List UInt8) (len : Nat) (L : List Tok) (hE : VauP E vb p len L) (s : List UInt8) : CallA Tryd.prog 20 #[.pointer (some ⟨vb, 0, none⟩), .string (bs s)] E (fun u_ A_ => u_ = getV L s ∧ SubA E A_) := by
  refine callA_of_denA ⟨Tryd.prog, 20, Tryd.f20, 16, [0, 1, 4, 5, 6], [], [], _⟩ (args := [_, _]) Tryd.func20 rfl (by kernel_rfl) Tryd.ntmps20 (by simp) (by kernel_rfl) ?_
  intro ν fr; have nuE := fr.nu
  have f0 := fr.2 0
  cases hp : posT s L with
  | none =>
    have fn := findN_w E vb p len L hE s hp
    have fn1 := fn _ (SubA.skip (o := Obj.cells #[.string ⟨#[]⟩, .string ⟨#[]⟩, .string ⟨#[]⟩, .string ⟨#[]⟩, .int .i64 0, .int .i64 0, .int .i64 0] 53) f0 (SubA.refl E))
    have e : getV L s = .tuple #[.agg #[.string ⟨#[]⟩, .string ⟨#[]⟩, .string ⟨#[]⟩, .string ⟨#[]⟩, .int .i64 0, .int .i64 0, .int .i64 0], .bool false] := by unfold getV; rw [hp]
    simp (maxDischargeDepth := 16) only [argE_nil, argE_cons, ↓vmD, vmV, vmStd, Nat.reduceMul, ↓reduceIte, Nat.reduceAdd, Nat.reduceSub, Nat.reduceEqDiff, Nat.reduceLT, Nat.reduceLeDiff, reduceCtorEq, Int.reduceToNat, Int.reduceLT, Int.reduceLE, Int.reduceEq, Int.reduceNeg, Int.reduceBEq, Int.reduceBNe, String.reduceEq, forall_const, ↓vmDA, vmVA, ↓vmQA, vmR, vmRA, ↓vmSA, vmSV, tyS, nuE, SubA.skip, SubA.refl, fr.2, areDigits_v, panSum_v, rdigits_v, rsum_v, panLuhn_v, rLuhn_v, panCheck_v, rCheck_v, panCd_v, rCd_v, isPrefix_v, rMake_v, isLet_v, isId_v, isNm_v, isTm_v, rIsId_v, rIsNm_v, rDomain_v, fn1, e]
  | some i =>
    obtain ⟨x, hx, hxs, hlt⟩ := posT_lt hp
    have e : getV L s = .tuple #[.agg (tokC x).toArray, .bool true] := by unfold getV; simp only [hp, hx]
    obtain ⟨mr, g, cap, cl, cur, es, rfl, hm, ho, g1, g2, g3, hok, _, hcr, hcc⟩ := vau_at hE hx
    have e1 : ((vb = mr) = False) ∧ ((mr = vb) = False) := ⟨eq_false g1, eq_false fun e => g1 e.symm⟩
    have e2 : ((vb = g) = False) ∧ ((g = vb) = False) := ⟨eq_false g2, eq_false fun e => g2 e.symm⟩
    have e3 : ((mr = g) = False) ∧ ((g = mr) = False) := ⟨eq_false g3, eq_false fun e => g3 e.symm⟩
    have fn := findS_w vb mr g cap cur es cl p len L s i hm g1 hok.2.2.2.2.2.1 hp
    have fn1 := fn _ (SubA.skip (o := Obj.cells #[.string ⟨#[]⟩, .string ⟨#[]⟩, .string ⟨#[]⟩, .string ⟨#[]⟩, .int .i64 0, .int .i64 0, .int .i64 0] 53) f0 (SubA.refl _))
    have nv := fr.ne (b := vb) (by simp (maxDischargeDepth := 16) only [argE_nil, argE_cons, ↓vmD, vmV, vmStd, Nat.reduceMul, ↓reduceIte, Nat.reduceAdd, Nat.reduceSub, Nat.reduceEqDiff, Nat.reduceLT, Nat.reduceLeDiff, reduceCtorEq, Int.reduceToNat, Int.reduceLT, Int.reduceLE, Int.reduceEq, Int.reduceNeg, Int.reduceBEq, Int.reduceBNe, String.reduceEq, forall_const, ↓vmDA, vmVA, ↓vmQA, vmR, vmRA, ↓vmSA, vmSV, tyS, nuE, SubA.skip, SubA.refl, fr.2, areDigits_v, panSum_v, rdigits_v, rsum_v, panLuhn_v, rLuhn_v, panCheck_v, rCheck_v, panCd_v, rCd_v, isPrefix_v, rMake_v, isLet_v, isId_v, isNm_v, isTm_v, rIsId_v, rIsNm_v, rDomain_v])
    have nm := fr.ne (b := mr) (by simp (maxDischargeDepth := 16) only [argE_nil, argE_cons, ↓vmD, vmV, vmStd, Nat.reduceMul, ↓reduceIte, Nat.reduceAdd, Nat.reduceSub, Nat.reduceEqDiff, Nat.reduceLT, Nat.reduceLeDiff, reduceCtorEq, Int.reduceToNat, Int.reduceLT, Int.reduceLE, Int.reduceEq, Int.reduceNeg, Int.reduceBEq, Int.reduceBNe, String.reduceEq, forall_const, ↓vmDA, vmVA, ↓vmQA, vmR, vmRA, ↓vmSA, vmSV, tyS, nuE, SubA.skip, SubA.refl, fr.2, areDigits_v, panSum_v, rdigits_v, rsum_v, panLuhn_v, rLuhn_v, panCheck_v, rCheck_v, panCd_v, rCd_v, isPrefix_v, rMake_v, isLet_v, isId_v, isNm_v, isTm_v, rIsId_v, rIsNm_v, rDomain_v, e1])
    have ng := fr.ne (b := g) (by simp (maxDischargeDepth := 16) only [argE_nil, argE_cons, ↓vmD, vmV, vmStd, Nat.reduceMul, ↓reduceIte, Nat.reduceAdd, Nat.reduceSub, Nat.reduceEqDiff, Nat.reduceLT, Nat.reduceLeDiff, reduceCtorEq, Int.reduceToNat, Int.reduceLT, Int.reduceLE, Int.reduceEq, Int.reduceNeg, Int.reduceBEq, Int.reduceBNe, String.reduceEq, forall_const, ↓vmDA, vmVA, ↓vmQA, vmR, vmRA, ↓vmSA, vmSV, tyS, nuE, SubA.skip, SubA.refl, fr.2, areDigits_v, panSum_v, rdigits_v, rsum_v, panLuhn_v, rLuhn_v, panCheck_v, rCheck_v, panCd_v, rCd_v, isPrefix_v, rMake_v, isLet_v, isId_v, isNm_v, isTm_v, rIsId_v, rIsNm_v, rDomain_v, e2, e3])
    simp (maxDischargeDepth := 16) only [argE_nil, argE_cons, ↓vmD, vmV, vmStd, Nat.reduceMul, ↓reduceIte, Nat.reduceAdd, Nat.reduceSub, Nat.reduceEqDiff, Nat.reduceLT, Nat.reduceLeDiff, reduceCtorEq, Int.reduceToNat, Int.reduceLT, Int.reduceLE, Int.reduceEq, Int.reduceNeg, Int.reduceBEq, Int.reduceBNe, String.reduceEq, forall_const, ↓vmDA, vmVA, ↓vmQA, vmR, vmRA, ↓vmSA, vmSV, tyS, nuE, SubA.skip, SubA.refl, fr.2, areDigits_v, panSum_v, rdigits_v, rsum_v, panLuhn_v, rLuhn_v, panCheck_v, rCheck_v, panCd_v, rCd_v, isPrefix_v, rMake_v, isLet_v, isId_v, isNm_v, isTm_v, rIsId_v, rIsNm_v, rDomain_v, fn1, e, hcr, e1, e2, e3, nv, nm, ng, tokC]
theorem getP_w (E : AH) (vb : Nat) (p : List UInt8) (len : Nat) (L : List Tok) (hE : VauP E vb p len L) (s : List UInt8) (B_ : AH) (hB_ : SubA E B_) : valA Tryd.prog 20 #[.pointer (some ⟨vb, 0, none⟩), .string (bs s)] B_ = some (getV L s) := valA_eq (pureA_at (by kernel_rfl) (getP_h E vb p len L hE s) hB_)
theorem getP_v (E : AH) (vb : Nat) (p : List UInt8) (len : Nat) (L : List Tok) (hE : VauP E vb p len L) (s : List UInt8) : valA Tryd.prog 20 #[.pointer (some ⟨vb, 0, none⟩), .string (bs s)] E = some (getV L s) := valA_eq (pureA_at (by kernel_rfl) (getP_h E vb p len L hE s) (SubA.refl _))
theorem rGet_h (E : AH) (rb : Nat) (p : List UInt8) (len : Nat) (L : List Tok) (hE : VauR E rb p len L) (s : List UInt8) : CallA Tryd.prog 21 #[.pointer (some ⟨rb, 0, none⟩), .string (bs s)] E (fun u_ A_ => u_ = getV L s ∧ SubA E A_) := by
  refine callA_of_denA ⟨Tryd.prog, 21, Tryd.f21, 20, [0, 1, 4, 5, 6], [], [], _⟩ (args := [_, _]) Tryd.func21 rfl (by kernel_rfl) Tryd.ntmps21 (by simp) (by kernel_rfl) ?_
  intro ν fr; have nuE := fr.nu
  have f0 := fr.2 0
  have fn := rfind_w E rb p len L hE s
  have fn1 := fn _ (SubA.skip (o := Obj.cells #[.string ⟨#[]⟩, .string ⟨#[]⟩, .string ⟨#[]⟩, .string ⟨#[]⟩, .int .i64 0, .int .i64 0, .int .i64 0] 53) f0 (SubA.refl E))
  cases hp : posT s L with
  | none =>
    simp only [hp] at fn1
    have e : getV L s = .tuple #[.agg #[.string ⟨#[]⟩, .string ⟨#[]⟩, .string ⟨#[]⟩, .string ⟨#[]⟩, .int .i64 0, .int .i64 0, .int .i64 0], .bool false] := by unfold getV; rw [hp]
    simp (maxDischargeDepth := 16) only [argE_nil, argE_cons, ↓vmD, vmV, vmStd, Nat.reduceMul, ↓reduceIte, Nat.reduceAdd, Nat.reduceSub, Nat.reduceEqDiff, Nat.reduceLT, Nat.reduceLeDiff, reduceCtorEq, Int.reduceToNat, Int.reduceLT, Int.reduceLE, Int.reduceEq, Int.reduceNeg, Int.reduceBEq, Int.reduceBNe, String.reduceEq, forall_const, ↓vmDA, vmVA, ↓vmQA, vmR, vmRA, ↓vmSA, vmSV, tyS, nuE, SubA.skip, SubA.refl, fr.2, areDigits_v, panSum_v, rdigits_v, rsum_v, panLuhn_v, rLuhn_v, panCheck_v, rCheck_v, panCd_v, rCd_v, isPrefix_v, rMake_v, isLet_v, isId_v, isNm_v, isTm_v, rIsId_v, rIsNm_v, rDomain_v, fn1, e]
  | some i =>
    obtain ⟨x, hx, hxs, hlt⟩ := posT_lt hp
    simp only [hp] at fn1
    have e : getV L s = .tuple #[.agg (tokC x).toArray, .bool true] := by unfold getV; simp only [hp, hx]
    obtain ⟨g, cap, cur, rfl, ho, g1, hok, _, hcr, hcc⟩ := vaur_at hE hx
    have e1 : ((rb = g) = False) ∧ ((g = rb) = False) := ⟨eq_false g1, eq_false fun e => g1 e.symm⟩
    have c3 : ((i : Int) < 0) = False := eq_false (by omega)
    have c4 : ((i : Int) < (L.length : Int)) = True := eq_true (by omega)
    have nv := fr.ne (b := rb) (by simp (maxDischargeDepth := 16) only [argE_nil, argE_cons, ↓vmD, vmV, vmStd, Nat.reduceMul, ↓reduceIte, Nat.reduceAdd, Nat.reduceSub, Nat.reduceEqDiff, Nat.reduceLT, Nat.reduceLeDiff, reduceCtorEq, Int.reduceToNat, Int.reduceLT, Int.reduceLE, Int.reduceEq, Int.reduceNeg, Int.reduceBEq, Int.reduceBNe, String.reduceEq, forall_const, ↓vmDA, vmVA, ↓vmQA, vmR, vmRA, ↓vmSA, vmSV, tyS, nuE, SubA.skip, SubA.refl, fr.2, areDigits_v, panSum_v, rdigits_v, rsum_v, panLuhn_v, rLuhn_v, panCheck_v, rCheck_v, panCd_v, rCd_v, isPrefix_v, rMake_v, isLet_v, isId_v, isNm_v, isTm_v, rIsId_v, rIsNm_v, rDomain_v])
    have ng := fr.ne (b := g) (by simp (maxDischargeDepth := 16) only [argE_nil, argE_cons, ↓vmD, vmV, vmStd, Nat.reduceMul, ↓reduceIte, Nat.reduceAdd, Nat.reduceSub, Nat.reduceEqDiff, Nat.reduceLT, Nat.reduceLeDiff, reduceCtorEq, Int.reduceToNat, Int.reduceLT, Int.reduceLE, Int.reduceEq, Int.reduceNeg, Int.reduceBEq, Int.reduceBNe, String.reduceEq, forall_const, ↓vmDA, vmVA, ↓vmQA, vmR, vmRA, ↓vmSA, vmSV, tyS, nuE, SubA.skip, SubA.refl, fr.2, areDigits_v, panSum_v, rdigits_v, rsum_v, panLuhn_v, rLuhn_v, panCheck_v, rCheck_v, panCd_v, rCd_v, isPrefix_v, rMake_v, isLet_v, isId_v, isNm_v, isTm_v, rIsId_v, rIsNm_v, rDomain_v, e1])
    simp (maxDischargeDepth := 16) only [argE_nil, argE_cons, ↓vmD, vmV, vmStd, Nat.reduceMul, ↓reduceIte, Nat.reduceAdd, Nat.reduceSub, Nat.reduceEqDiff, Nat.reduceLT, Nat.reduceLeDiff, reduceCtorEq, Int.reduceToNat, Int.reduceLT, Int.reduceLE, Int.reduceEq, Int.reduceNeg, Int.reduceBEq, Int.reduceBNe, String.reduceEq, forall_const, ↓vmDA, vmVA, ↓vmQA, vmR, vmRA, ↓vmSA, vmSV, tyS, nuE, SubA.skip, SubA.refl, fr.2, areDigits_v, panSum_v, rdigits_v, rsum_v, panLuhn_v, rLuhn_v, panCheck_v, rCheck_v, panCd_v, rCd_v, isPrefix_v, rMake_v, isLet_v, isId_v, isNm_v, isTm_v, rIsId_v, rIsNm_v, rDomain_v, fn1, e, hcr, e1, c3, c4, nv, ng, tokC]
theorem rGet_w (E : AH) (rb : Nat) (p : List UInt8) (len : Nat) (L : List Tok) (hE : VauR E rb p len L) (s : List UInt8) (B_ : AH) (hB_ : SubA E B_) : valA Tryd.prog 21 #[.pointer (some ⟨rb, 0, none⟩), .string (bs s)] B_ = some (getV L s) := valA_eq (pureA_at (by kernel_rfl) (rGet_h E rb p len L hE s) hB_)
theorem rGet_v (E : AH) (rb : Nat) (p : List UInt8) (len : Nat) (L : List Tok) (hE : VauR E rb p len L) (s : List UInt8) : valA Tryd.prog 21 #[.pointer (some ⟨rb, 0, none⟩), .string (bs s)] E = some (getV L s) := valA_eq (pureA_at (by kernel_rfl) (rGet_h E rb p len L hE s) (SubA.refl _))
theorem ofL_step {L : List Tok} {num : List UInt8} {e : Nat} {x : Tok} (hx : L[e]? = some x) : ofL (L.take (e + 1)) num = ofL (L.take e) num ++ (if x.pan = num ∧ ¬ x.st = 3 then [x.tok] else []) := by
  unfold ofL
  rw [List.take_add_one, hx, List.filter_append, List.map_append]
  congr 1
  by_cases h1 : x.pan = num <;> by_cases h2 : x.st = 3 <;> simp [h1, h2]
theorem ofL_len (L : List Tok) (num : List UInt8) : (ofL L num).length ≤ L.length := by
  unfold ofL; rw [List.length_map]; exact List.length_filter_le _ _
theorem own_app {v' : Value} {B' : AH} {T : List (List UInt8)} {t : List UInt8} (ho' : OwnZ 9 1 v' B' (T.length + 1) (T.flatMap bsC ++ bsC t)) : OwnL bsC 1 9 v' B' (T ++ [t]) := by
  unfold OwnL
  rw [List.length_append, List.flatMap_append]
  simpa using ho'
theorem ofP_h (E : AH) (vb : Nat) (p : List UInt8) (len : Nat) (L : List Tok) (hE : VauP E vb p len L) (num : List UInt8) : CallA Tryd.prog 23 #[.pointer (some ⟨vb, 0, none⟩), .string (bs num)] E (fun u_ A_ => ∃ v B, u_ = v ∧ OwnL bsC 1 9 v B (ofL L num) ∧ Dis B E ∧ SubA (B ++ E) A_) := by
  refine callA_of_denA ⟨Tryd.prog, 23, Tryd.f23, 35, [0, 1, 4, 5, 7, 13, 14, 15], [], [], _⟩ (args := [_, _]) Tryd.func23 rfl (by kernel_rfl) Tryd.ntmps23 (by simp) (by kernel_rfl) ?_
  intro ν fr; have nuE := fr.nu
  obtain ⟨q, cap, mr, lv, hs, hok⟩ := hE.out
  have h64 := hok.2.2.2.2.2.1
  simp (maxDischargeDepth := 16) only [argE_nil, argE_cons, ↓vmD, vmV, vmStd, Nat.reduceMul, ↓reduceIte, Nat.reduceAdd, Nat.reduceSub, Nat.reduceEqDiff, Nat.reduceLT, Nat.reduceLeDiff, reduceCtorEq, Int.reduceToNat, Int.reduceLT, Int.reduceLE, Int.reduceEq, Int.reduceNeg, Int.reduceBEq, Int.reduceBNe, String.reduceEq, forall_const, ↓vmDA, vmVA, ↓vmQA, vmR, vmRA, ↓vmSA, vmSV, tyS, nuE, SubA.skip, SubA.refl, fr.2, areDigits_v, panSum_v, rdigits_v, rsum_v, panLuhn_v, rLuhn_v, panCheck_v, rCheck_v, panCd_v, rCd_v, isPrefix_v, rMake_v, isLet_v, isId_v, isNm_v, isTm_v, rIsId_v, rIsNm_v, rDomain_v, lv]
  obtain ⟨e, l, v, B, he, hv, hB, hd, hle, ho, d⟩ : ∃ (e : Nat) (l : List Tok) (v : Value) (B : AH), e = 0 ∧ v = .slice none 0 0 ∧ B = [] ∧ l = L.drop e ∧ e ≤ L.length ∧ OwnL bsC 1 9 v B (ofL (L.take e) num) ∧ Dis B E :=
    ⟨0, L, _, [], rfl, rfl, rfl, rfl, by simp, OwnL.nil _ _ _, Dis.nil _⟩
  rw [show (15, some (Value.int .i64 0)) = (15, some (Value.int .i64 (e : Int))) by rw [he]; rfl]
  rw [show (5, some (Value.slice none 0 0)) = (5, some v) by rw [hv]]
  refine LoopA.at (A := B ++ E) (by subst hB; exact SubA.refl _) ?_
  clear he hv hB nuE fr
  induction l generalizing e v B with
  | nil =>
    have hle2 := drop_nil hd
    have lt : ((e : Int) < (L.length : Int)) = False := eq_false (by omega)
    rw [List.take_of_length_le hle2] at ho
    refine LoopA.intro (by kernel_rfl) ?_
    intro ν fr; have nuE := fr.nu
    simp (maxDischargeDepth := 16) only [argE_nil, argE_cons, ↓vmD, vmV, vmStd, Nat.reduceMul, ↓reduceIte, Nat.reduceAdd, Nat.reduceSub, Nat.reduceEqDiff, Nat.reduceLT, Nat.reduceLeDiff, reduceCtorEq, Int.reduceToNat, Int.reduceLT, Int.reduceLE, Int.reduceEq, Int.reduceNeg, Int.reduceBEq, Int.reduceBNe, String.reduceEq, forall_const, ↓vmDA, vmVA, ↓vmQA, vmR, vmRA, ↓vmSA, vmSV, tyS, nuE, SubA.skip, SubA.refl, fr.2, areDigits_v, panSum_v, rdigits_v, rsum_v, panLuhn_v, rLuhn_v, panCheck_v, rCheck_v, panCd_v, rCd_v, isPrefix_v, rMake_v, isLet_v, isId_v, isNm_v, isTm_v, rIsId_v, rIsNm_v, rDomain_v, lt]
    exact ⟨_, B, rfl, ho, d, SubA.refl _⟩
  | cons x l ih =>
    obtain ⟨ha, hlt, hd'⟩ := drop_some hd
    have lt : ((e : Int) < (L.length : Int)) = True := eq_true (by omega)
    have we : IntKind.i64.wrap ((e : Int) + 1) = ((e + 1 : Nat) : Int) := by rw [w_i64 (by omega) (by omega)]; omega
    obtain ⟨bk, off, cs, ty, fr0, hp0, hbk, hcr, hcc⟩ := hs.at ha
    subst hp0
    have lbk := d.right _ _ hbk
    have t1 : ((bs x.pan).toList = (bs num).toList) = (x.pan = num) := by rw [bs_list, bs_list]
    have hst := ofL_step (num := num) ha
    refine LoopA.intro (by kernel_rfl) ?_
    intro ν fr; have nuE := fr.nu
    by_cases a1 : x.pan = num
    · have a1t := eq_true a1
      by_cases a2 : x.st = 3
      · rw [if_neg (fun h => h.2 a2), List.append_nil] at hst
        have a2t := eq_true a2
        simp (maxDischargeDepth := 16) only [argE_nil, argE_cons, ↓vmD, vmV, vmStd, Nat.reduceMul, ↓reduceIte, Nat.reduceAdd, Nat.reduceSub, Nat.reduceEqDiff, Nat.reduceLT, Nat.reduceLeDiff, reduceCtorEq, Int.reduceToNat, Int.reduceLT, Int.reduceLE, Int.reduceEq, Int.reduceNeg, Int.reduceBEq, Int.reduceBNe, String.reduceEq, forall_const, ↓vmDA, vmVA, ↓vmQA, vmR, vmRA, ↓vmSA, vmSV, tyS, nuE, SubA.skip, SubA.refl, fr.2, areDigits_v, panSum_v, rdigits_v, rsum_v, panLuhn_v, rLuhn_v, panCheck_v, rCheck_v, panCd_v, rCd_v, isPrefix_v, rMake_v, isLet_v, isId_v, isNm_v, isTm_v, rIsId_v, rIsNm_v, rDomain_v, lt, lbk, hcr, tokC, t1, a1t, a2t, we]
        exact LoopA.weak (ih (e + 1) v B hd' (by omega) (by rw [hst]; exact ho) d) (by simp only [subE, get_cons, Nat.reduceEqDiff, ↓reduceIte, reduceCtorEq, Nat.reduceAdd, and_self, and_true]) (by (repeat (first | exact SubA.refl _ | refine SubA.skip (fr.2 _) ?_)))
      · rw [if_pos ⟨a1, a2⟩] at hst
        have b1 := ofL_len (L.take e) num
        rw [List.length_take] at b1
        obtain ⟨q2, vcap, rfl, hvc, hvs⟩ := ho.read bsC_len
        simp (maxDischargeDepth := 16) only [argE_nil, argE_cons, ↓vmD, vmV, vmStd, Nat.reduceMul, ↓reduceIte, Nat.reduceAdd, Nat.reduceSub, Nat.reduceEqDiff, Nat.reduceLT, Nat.reduceLeDiff, reduceCtorEq, Int.reduceToNat, Int.reduceLT, Int.reduceLE, Int.reduceEq, Int.reduceNeg, Int.reduceBEq, Int.reduceBNe, String.reduceEq, forall_const, ↓vmDA, vmVA, ↓vmQA, vmR, vmRA, ↓vmSA, vmSV, tyS, nuE, SubA.skip, SubA.refl, fr.2, areDigits_v, panSum_v, rdigits_v, rsum_v, panLuhn_v, rLuhn_v, panCheck_v, rCheck_v, panCd_v, rCd_v, isPrefix_v, rMake_v, isLet_v, isId_v, isNm_v, isTm_v, rIsId_v, rIsNm_v, rDomain_v, lt, lbk, hcr, tokC, t1, a1t, a2, we, sc_st1]
        have n0' := fr.2 0
        have n1' : Vm.look ((ν 0, Obj.cells (tokC x).toArray 53) :: (B ++ E)) (ν 1) = none := by simp (maxDischargeDepth := 16) only [argE_nil, argE_cons, ↓vmD, vmV, vmStd, Nat.reduceMul, ↓reduceIte, Nat.reduceAdd, Nat.reduceSub, Nat.reduceEqDiff, Nat.reduceLT, Nat.reduceLeDiff, reduceCtorEq, Int.reduceToNat, Int.reduceLT, Int.reduceLE, Int.reduceEq, Int.reduceNeg, Int.reduceBEq, Int.reduceBNe, String.reduceEq, forall_const, ↓vmDA, vmVA, ↓vmQA, vmR, vmRA, ↓vmSA, vmSV, tyS, nuE, SubA.skip, SubA.refl, fr.2, areDigits_v, panSum_v, rdigits_v, rsum_v, panLuhn_v, rLuhn_v, panCheck_v, rCheck_v, panCd_v, rCd_v, isPrefix_v, rMake_v, isLet_v, isId_v, isNm_v, isTm_v, rIsId_v, rIsNm_v, rDomain_v]
        have hE1 : SubA E ((ν 1, Obj.cells #[.string (bs x.tok)] 9) :: (ν 0, Obj.cells (tokC x).toArray 53) :: (B ++ E)) := SubA.fresh n1' (SubA.fresh n0' d.right)
        have hB1 : SubA B ((ν 1, Obj.cells #[.string (bs x.tok)] 9) :: (ν 0, Obj.cells (tokC x).toArray 53) :: (B ++ E)) := SubA.fresh n1' (SubA.fresh n0' (SubA.left B E))
        refine RunA.use ?_
        refine append_src (m := 1) (news := bsC x.tok) (B := B) slc38 zro9 rfl (by decide) ho hB1 (.inr ⟨ν 1, 0, rfl, by simp (maxDischargeDepth := 16) only [argE_nil, argE_cons, ↓vmD, vmV, vmStd, Nat.reduceMul, ↓reduceIte, Nat.reduceAdd, Nat.reduceSub, Nat.reduceEqDiff, Nat.reduceLT, Nat.reduceLeDiff, reduceCtorEq, Int.reduceToNat, Int.reduceLT, Int.reduceLE, Int.reduceEq, Int.reduceNeg, Int.reduceBEq, Int.reduceBNe, String.reduceEq, forall_const, ↓vmDA, vmVA, ↓vmQA, vmR, vmRA, ↓vmSA, vmSV, tyS, nuE, SubA.skip, SubA.refl, fr.2, areDigits_v, panSum_v, rdigits_v, rsum_v, panLuhn_v, rLuhn_v, panCheck_v, rCheck_v, panCd_v, rCd_v, isPrefix_v, rMake_v, isLet_v, isId_v, isNm_v, isTm_v, rIsId_v, rIsNm_v, rDomain_v, bsC]⟩) (by simp [bsC, Value.oneCell']) (by simp only [maxLen]; omega) (by omega) ?_
        intro v' B' ho' hb'
        have dB' : Dis B' E := ap_dis hb' d hE1
        refine ⟨B' ++ E, SubA.app hE1, ?_⟩
        intro ν3 fr3
        have fr := fr3
        have nuE := fr.nu
        simp (maxDischargeDepth := 16) only [argE_nil, argE_cons, ↓vmD, vmV, vmStd, Nat.reduceMul, ↓reduceIte, Nat.reduceAdd, Nat.reduceSub, Nat.reduceEqDiff, Nat.reduceLT, Nat.reduceLeDiff, reduceCtorEq, Int.reduceToNat, Int.reduceLT, Int.reduceLE, Int.reduceEq, Int.reduceNeg, Int.reduceBEq, Int.reduceBNe, String.reduceEq, forall_const, ↓vmDA, vmVA, ↓vmQA, vmR, vmRA, ↓vmSA, vmSV, tyS, nuE, SubA.skip, SubA.refl, fr.2, areDigits_v, panSum_v, rdigits_v, rsum_v, panLuhn_v, rLuhn_v, panCheck_v, rCheck_v, panCd_v, rCd_v, isPrefix_v, rMake_v, isLet_v, isId_v, isNm_v, isTm_v, rIsId_v, rIsNm_v, rDomain_v, we]
        exact LoopA.weak (ih (e + 1) v' B' hd' (by omega) (by rw [hst]; exact own_app ho') dB') (by simp only [subE, get_cons, Nat.reduceEqDiff, ↓reduceIte, reduceCtorEq, Nat.reduceAdd, and_self, and_true]) (SubA.refl _)
    · rw [if_neg (fun h => a1 h.1), List.append_nil] at hst
      simp (maxDischargeDepth := 16) only [argE_nil, argE_cons, ↓vmD, vmV, vmStd, Nat.reduceMul, ↓reduceIte, Nat.reduceAdd, Nat.reduceSub, Nat.reduceEqDiff, Nat.reduceLT, Nat.reduceLeDiff, reduceCtorEq, Int.reduceToNat, Int.reduceLT, Int.reduceLE, Int.reduceEq, Int.reduceNeg, Int.reduceBEq, Int.reduceBNe, String.reduceEq, forall_const, ↓vmDA, vmVA, ↓vmQA, vmR, vmRA, ↓vmSA, vmSV, tyS, nuE, SubA.skip, SubA.refl, fr.2, areDigits_v, panSum_v, rdigits_v, rsum_v, panLuhn_v, rLuhn_v, panCheck_v, rCheck_v, panCd_v, rCd_v, isPrefix_v, rMake_v, isLet_v, isId_v, isNm_v, isTm_v, rIsId_v, rIsNm_v, rDomain_v, lt, lbk, hcr, tokC, t1, a1, we]
      exact LoopA.weak (ih (e + 1) v B hd' (by omega) (by rw [hst]; exact ho) d) (by simp only [subE, get_cons, Nat.reduceEqDiff, ↓reduceIte, reduceCtorEq, Nat.reduceAdd, and_self, and_true]) (by (repeat (first | exact SubA.refl _ | refine SubA.skip (fr.2 _) ?_)))

theorem rOf_h (E : AH) (rb : Nat) (p : List UInt8) (len : Nat) (L : List Tok) (hE : VauR E rb p len L) (num : List UInt8) : CallA Tryd.prog 24 #[.pointer (some ⟨rb, 0, none⟩), .string (bs num)] E (fun u_ A_ => ∃ v B, u_ = v ∧ OwnL bsC 1 9 v B (ofL L num) ∧ Dis B E ∧ SubA (B ++ E) A_) := by
  refine callA_of_denA ⟨Tryd.prog, 24, Tryd.f24, 53, [0, 1, 4, 5, 6], [], [], _⟩ (args := [_, _]) Tryd.func24 rfl (by kernel_rfl) Tryd.ntmps24 (by simp) (by kernel_rfl) ?_
  intro ν fr; have nuE := fr.nu
  obtain ⟨q, cap, lv, hs, hok⟩ := hE.out
  have h64 := hok.2.2.2.2.2.1
  simp (maxDischargeDepth := 16) only [argE_nil, argE_cons, ↓vmD, vmV, vmStd, Nat.reduceMul, ↓reduceIte, Nat.reduceAdd, Nat.reduceSub, Nat.reduceEqDiff, Nat.reduceLT, Nat.reduceLeDiff, reduceCtorEq, Int.reduceToNat, Int.reduceLT, Int.reduceLE, Int.reduceEq, Int.reduceNeg, Int.reduceBEq, Int.reduceBNe, String.reduceEq, forall_const, ↓vmDA, vmVA, ↓vmQA, vmR, vmRA, ↓vmSA, vmSV, tyS, nuE, SubA.skip, SubA.refl, fr.2, areDigits_v, panSum_v, rdigits_v, rsum_v, panLuhn_v, rLuhn_v, panCheck_v, rCheck_v, panCd_v, rCd_v, isPrefix_v, rMake_v, isLet_v, isId_v, isNm_v, isTm_v, rIsId_v, rIsNm_v, rDomain_v, lv]
  obtain ⟨e, l, v, B, he, hv, hB, hd, hle, ho, d⟩ : ∃ (e : Nat) (l : List Tok) (v : Value) (B : AH), e = 0 ∧ v = .slice none 0 0 ∧ B = [] ∧ l = L.drop e ∧ e ≤ L.length ∧ OwnL bsC 1 9 v B (ofL (L.take e) num) ∧ Dis B E :=
    ⟨0, L, _, [], rfl, rfl, rfl, rfl, by simp, OwnL.nil _ _ _, Dis.nil _⟩
  rw [show (6, some (Value.int .i64 0)) = (6, some (Value.int .i64 (e : Int))) by rw [he]; rfl]
  rw [show (5, some (Value.slice none 0 0)) = (5, some v) by rw [hv]]
  refine LoopA.at (A := B ++ E) (by subst hB; exact SubA.refl _) ?_
  clear he hv hB nuE fr
  induction l generalizing e v B with
  | nil =>
    have hle2 := drop_nil hd
    have lt : ((e : Int) < (L.length : Int)) = False := eq_false (by omega)
    rw [List.take_of_length_le hle2] at ho
    refine LoopA.intro (by kernel_rfl) ?_
    intro ν fr; have nuE := fr.nu
    simp (maxDischargeDepth := 16) only [argE_nil, argE_cons, ↓vmD, vmV, vmStd, Nat.reduceMul, ↓reduceIte, Nat.reduceAdd, Nat.reduceSub, Nat.reduceEqDiff, Nat.reduceLT, Nat.reduceLeDiff, reduceCtorEq, Int.reduceToNat, Int.reduceLT, Int.reduceLE, Int.reduceEq, Int.reduceNeg, Int.reduceBEq, Int.reduceBNe, String.reduceEq, forall_const, ↓vmDA, vmVA, ↓vmQA, vmR, vmRA, ↓vmSA, vmSV, tyS, nuE, SubA.skip, SubA.refl, fr.2, areDigits_v, panSum_v, rdigits_v, rsum_v, panLuhn_v, rLuhn_v, panCheck_v, rCheck_v, panCd_v, rCd_v, isPrefix_v, rMake_v, isLet_v, isId_v, isNm_v, isTm_v, rIsId_v, rIsNm_v, rDomain_v, d.right _ _ lv, lt]
    exact ⟨_, B, rfl, ho, d, SubA.refl _⟩
  | cons x l ih =>
    obtain ⟨ha, hlt, hd'⟩ := drop_some hd
    have lt : ((e : Int) < (L.length : Int)) = True := eq_true (by omega)
    have we : IntKind.i64.wrap ((e : Int) + 1) = ((e + 1 : Nat) : Int) := by rw [w_i64 (by omega) (by omega)]; omega
    obtain ⟨bk, off, cs, ty, fr0, hp0, hbk, hcr, hcc⟩ := hs.at ha
    subst hp0
    have c0 : cs[off + e * 7]? = some (.string (bs x.tok)) := hcc 0 _ rfl
    have lbk := d.right _ _ hbk
    have t1 : ((bs x.pan).toList = (bs num).toList) = (x.pan = num) := by rw [bs_list, bs_list]
    have hst := ofL_step (num := num) ha
    refine LoopA.intro (by kernel_rfl) ?_
    intro ν fr; have nuE := fr.nu
    by_cases a1 : x.pan = num
    · have a1t := eq_true a1
      by_cases a2 : x.st = 3
      · rw [if_neg (fun h => h.2 a2), List.append_nil] at hst
        have a2t := eq_true a2
        simp (maxDischargeDepth := 16) only [argE_nil, argE_cons, ↓vmD, vmV, vmStd, Nat.reduceMul, ↓reduceIte, Nat.reduceAdd, Nat.reduceSub, Nat.reduceEqDiff, Nat.reduceLT, Nat.reduceLeDiff, reduceCtorEq, Int.reduceToNat, Int.reduceLT, Int.reduceLE, Int.reduceEq, Int.reduceNeg, Int.reduceBEq, Int.reduceBNe, String.reduceEq, forall_const, ↓vmDA, vmVA, ↓vmQA, vmR, vmRA, ↓vmSA, vmSV, tyS, nuE, SubA.skip, SubA.refl, fr.2, areDigits_v, panSum_v, rdigits_v, rsum_v, panLuhn_v, rLuhn_v, panCheck_v, rCheck_v, panCd_v, rCd_v, isPrefix_v, rMake_v, isLet_v, isId_v, isNm_v, isTm_v, rIsId_v, rIsNm_v, rDomain_v, d.right _ _ lv, lt, lbk, c0, hcc 1 _ rfl, hcc 5 _ rfl, t1, a1t, a2t, we]
        exact LoopA.weak (ih (e + 1) v B hd' (by omega) (by rw [hst]; exact ho) d) (by simp only [subE, get_cons, Nat.reduceEqDiff, ↓reduceIte, reduceCtorEq, Nat.reduceAdd, and_self, and_true]) (SubA.refl _)
      · rw [if_pos ⟨a1, a2⟩] at hst
        have b1 := ofL_len (L.take e) num
        rw [List.length_take] at b1
        obtain ⟨q2, vcap, rfl, hvc, hvs⟩ := ho.read bsC_len
        simp (maxDischargeDepth := 16) only [argE_nil, argE_cons, ↓vmD, vmV, vmStd, Nat.reduceMul, ↓reduceIte, Nat.reduceAdd, Nat.reduceSub, Nat.reduceEqDiff, Nat.reduceLT, Nat.reduceLeDiff, reduceCtorEq, Int.reduceToNat, Int.reduceLT, Int.reduceLE, Int.reduceEq, Int.reduceNeg, Int.reduceBEq, Int.reduceBNe, String.reduceEq, forall_const, ↓vmDA, vmVA, ↓vmQA, vmR, vmRA, ↓vmSA, vmSV, tyS, nuE, SubA.skip, SubA.refl, fr.2, areDigits_v, panSum_v, rdigits_v, rsum_v, panLuhn_v, rLuhn_v, panCheck_v, rCheck_v, panCd_v, rCd_v, isPrefix_v, rMake_v, isLet_v, isId_v, isNm_v, isTm_v, rIsId_v, rIsNm_v, rDomain_v, d.right _ _ lv, lt, lbk, c0, hcc 1 _ rfl, hcc 5 _ rfl, t1, a1t, a2, we, sc_st1]
        have n0' := fr.2 0
        have hE1 : SubA E ((ν 0, Obj.cells #[.string (bs x.tok)] 9) :: (B ++ E)) := SubA.fresh n0' d.right
        have hB1 : SubA B ((ν 0, Obj.cells #[.string (bs x.tok)] 9) :: (B ++ E)) := SubA.fresh n0' (SubA.left B E)
        refine RunA.use ?_
        refine append_src (m := 1) (news := bsC x.tok) (B := B) slc38 zro9 rfl (by decide) ho hB1 (.inr ⟨ν 0, 0, rfl, by simp (maxDischargeDepth := 16) only [argE_nil, argE_cons, ↓vmD, vmV, vmStd, Nat.reduceMul, ↓reduceIte, Nat.reduceAdd, Nat.reduceSub, Nat.reduceEqDiff, Nat.reduceLT, Nat.reduceLeDiff, reduceCtorEq, Int.reduceToNat, Int.reduceLT, Int.reduceLE, Int.reduceEq, Int.reduceNeg, Int.reduceBEq, Int.reduceBNe, String.reduceEq, forall_const, ↓vmDA, vmVA, ↓vmQA, vmR, vmRA, ↓vmSA, vmSV, tyS, nuE, SubA.skip, SubA.refl, fr.2, areDigits_v, panSum_v, rdigits_v, rsum_v, panLuhn_v, rLuhn_v, panCheck_v, rCheck_v, panCd_v, rCd_v, isPrefix_v, rMake_v, isLet_v, isId_v, isNm_v, isTm_v, rIsId_v, rIsNm_v, rDomain_v, bsC]⟩) (by simp [bsC, Value.oneCell']) (by simp only [maxLen]; omega) (by omega) ?_
        intro v' B' ho' hb'
        have dB' : Dis B' E := ap_dis hb' d hE1
        refine ⟨B' ++ E, SubA.app hE1, ?_⟩
        intro ν3 fr3
        have fr := fr3
        have nuE := fr.nu
        simp (maxDischargeDepth := 16) only [argE_nil, argE_cons, ↓vmD, vmV, vmStd, Nat.reduceMul, ↓reduceIte, Nat.reduceAdd, Nat.reduceSub, Nat.reduceEqDiff, Nat.reduceLT, Nat.reduceLeDiff, reduceCtorEq, Int.reduceToNat, Int.reduceLT, Int.reduceLE, Int.reduceEq, Int.reduceNeg, Int.reduceBEq, Int.reduceBNe, String.reduceEq, forall_const, ↓vmDA, vmVA, ↓vmQA, vmR, vmRA, ↓vmSA, vmSV, tyS, nuE, SubA.skip, SubA.refl, fr.2, areDigits_v, panSum_v, rdigits_v, rsum_v, panLuhn_v, rLuhn_v, panCheck_v, rCheck_v, panCd_v, rCd_v, isPrefix_v, rMake_v, isLet_v, isId_v, isNm_v, isTm_v, rIsId_v, rIsNm_v, rDomain_v, we]
        exact LoopA.weak (ih (e + 1) v' B' hd' (by omega) (by rw [hst]; exact own_app ho') dB') (by simp only [subE, get_cons, Nat.reduceEqDiff, ↓reduceIte, reduceCtorEq, Nat.reduceAdd, and_self, and_true]) (SubA.refl _)
    · rw [if_neg (fun h => a1 h.1), List.append_nil] at hst
      simp (maxDischargeDepth := 16) only [argE_nil, argE_cons, ↓vmD, vmV, vmStd, Nat.reduceMul, ↓reduceIte, Nat.reduceAdd, Nat.reduceSub, Nat.reduceEqDiff, Nat.reduceLT, Nat.reduceLeDiff, reduceCtorEq, Int.reduceToNat, Int.reduceLT, Int.reduceLE, Int.reduceEq, Int.reduceNeg, Int.reduceBEq, Int.reduceBNe, String.reduceEq, forall_const, ↓vmDA, vmVA, ↓vmQA, vmR, vmRA, ↓vmSA, vmSV, tyS, nuE, SubA.skip, SubA.refl, fr.2, areDigits_v, panSum_v, rdigits_v, rsum_v, panLuhn_v, rLuhn_v, panCheck_v, rCheck_v, panCd_v, rCd_v, isPrefix_v, rMake_v, isLet_v, isId_v, isNm_v, isTm_v, rIsId_v, rIsNm_v, rDomain_v, d.right _ _ lv, lt, lbk, c0, hcc 1 _ rfl, hcc 5 _ rfl, t1, a1, we]
      exact LoopA.weak (ih (e + 1) v B hd' (by omega) (by rw [hst]; exact ho) d) (by simp only [subE, get_cons, Nat.reduceEqDiff, ↓reduceIte, reduceCtorEq, Nat.reduceAdd, and_self, and_true]) (SubA.refl _)

set_option linter.unusedSimpArgs false
set_option linter.unusedVariables false
set_option maxHeartbeats 4000000
set_option maxRecDepth 20000
theorem chqU_h (E : AH) (vb fb : Nat) (p : List UInt8) (len : Nat) (L : List Tok) (hE : VauP E vb p len L) (s : List UInt8) (tw a a2 : Int) (i : Nat) (x : Tok) (hi : posT s L = some i) (hx : L[i]? = some x) (hf : Vm.look E fb = none) (hst : x.st ≠ a) (hsb : x.st = a2) : CallA Tryd.prog 33 #[.pointer (some ⟨vb, 0, none⟩), .string (bs s), .int .i64 tw, .slice (some ⟨fb, 0, none⟩) 2 2] ((fb, (Obj.cells #[.int .i64 a, .int .i64 a2] 3)) :: E) (fun u_ A_ => u_ = .int .i64 0 ∧ ∃ E', VauP E' vb p len (L.set i { x with st := tw }) ∧ SubA E' A_ ∧ (∀ b, Vm.look E b ≠ none → Vm.look E' b ≠ none) ∧ ∀ b, Vm.look ((fb, (Obj.cells #[.int .i64 a, .int .i64 a2] 3)) :: E) b ≠ none → Vm.look A_ b ≠ none) := by
  refine callA_of_denA ⟨Tryd.prog, 33, Tryd.f33, 34, [0, 1, 2, 3, 8, 9, 11, 17, 18, 19], [], [], _⟩ (args := [_, _, _, _]) Tryd.func33 rfl (by kernel_rfl) Tryd.ntmps33 (by simp) (by kernel_rfl) ?_
  intro ν fr; have nuE := fr.nu
  obtain ⟨mr, g, cap, cl, cur, es, rfl, hm, ho, g1, g2, g3, hok, hlt, hcr, hcc⟩ := vau_at hE hx
  have e1 : ((vb = mr) = False) ∧ ((mr = vb) = False) := ⟨eq_false g1, eq_false fun e => g1 e.symm⟩
  have e2 : ((vb = g) = False) ∧ ((g = vb) = False) := ⟨eq_false g2, eq_false fun e => g2 e.symm⟩
  have e3 : ((mr = g) = False) ∧ ((g = mr) = False) := ⟨eq_false g3, eq_false fun e => g3 e.symm⟩
  have fn := findS_w vb mr g cap cur es cl p len L s i hm g1 hok.2.2.2.2.2.1 hi _ (SubA.fresh (o := (Obj.cells #[.int .i64 a, .int .i64 a2] 3)) hf (SubA.refl _))
  have e4 : ((fb = g) = False) ∧ ((g = fb) = False) := look_ne (o := (Obj.cells cur 53)) hf (by simp [Vm.look, g2, g3])
  have e5 : ((fb = vb) = False) ∧ ((vb = fb) = False) := look_ne (o := (Obj.cells #[.string (bs p), .int .i64 (len : Int), .slice (some ⟨g, 0, none⟩) L.length cap, .map (some mr)] 63)) hf (by simp [Vm.look])
  have e6 : ((fb = mr) = False) ∧ ((mr = fb) = False) := look_ne (o := .map es cl) hf (by simp [Vm.look, g1])
  have c5 := hcc 5 _ rfl
  have hst0 := eq_false hst
  have hsb0 := eq_true hsb
  simp (maxDischargeDepth := 16) only [argE_nil, argE_cons, ↓vmD, vmV, vmStd, Nat.reduceMul, ↓reduceIte, Nat.reduceAdd, Nat.reduceSub, Nat.reduceEqDiff, Nat.reduceLT, Nat.reduceLeDiff, reduceCtorEq, Int.reduceToNat, Int.reduceLT, Int.reduceLE, Int.reduceEq, Int.reduceNeg, Int.reduceBEq, Int.reduceBNe, String.reduceEq, forall_const, ↓vmDA, vmVA, ↓vmQA, vmR, vmRA, ↓vmSA, vmSV, tyS, nuE, SubA.skip, SubA.refl, fr.2, areDigits_v, panSum_v, rdigits_v, rsum_v, panLuhn_v, rLuhn_v, panCheck_v, rCheck_v, panCd_v, rCd_v, isPrefix_v, rMake_v, isLet_v, isId_v, isNm_v, isTm_v, rIsId_v, rIsNm_v, rDomain_v, fn, e1, e2, e3, e4, e5, e6, c5, hst0]
  refine LoopA.intro (by kernel_rfl) ?_
  intro ν fr; have nuE := fr.nu
  simp (maxDischargeDepth := 16) only [argE_nil, argE_cons, ↓vmD, vmV, vmStd, Nat.reduceMul, ↓reduceIte, Nat.reduceAdd, Nat.reduceSub, Nat.reduceEqDiff, Nat.reduceLT, Nat.reduceLeDiff, reduceCtorEq, Int.reduceToNat, Int.reduceLT, Int.reduceLE, Int.reduceEq, Int.reduceNeg, Int.reduceBEq, Int.reduceBNe, String.reduceEq, forall_const, ↓vmDA, vmVA, ↓vmQA, vmR, vmRA, ↓vmSA, vmSV, tyS, nuE, SubA.skip, SubA.refl, fr.2, areDigits_v, panSum_v, rdigits_v, rsum_v, panLuhn_v, rLuhn_v, panCheck_v, rCheck_v, panCd_v, rCd_v, isPrefix_v, rMake_v, isLet_v, isId_v, isNm_v, isTm_v, rIsId_v, rIsNm_v, rDomain_v, fn, e1, e2, e3, e4, e5, e6, c5, hst0]
  refine LoopA.intro (by kernel_rfl) ?_
  intro ν fr; have nuE := fr.nu
  obtain ⟨hset, hsz⟩ := ho.set tok_len hlt { x with st := tw }
  rw [splice_st tw hcc] at hset
  have sz : (i * 7 + 5 + 1 ≤ cur.size) = True := eq_true (by omega)
  simp (maxDischargeDepth := 16) only [argE_nil, argE_cons, ↓vmD, vmV, vmStd, Nat.reduceMul, ↓reduceIte, Nat.reduceAdd, Nat.reduceSub, Nat.reduceEqDiff, Nat.reduceLT, Nat.reduceLeDiff, reduceCtorEq, Int.reduceToNat, Int.reduceLT, Int.reduceLE, Int.reduceEq, Int.reduceNeg, Int.reduceBEq, Int.reduceBNe, String.reduceEq, forall_const, ↓vmDA, vmVA, ↓vmQA, vmR, vmRA, ↓vmSA, vmSV, tyS, nuE, SubA.skip, SubA.refl, fr.2, areDigits_v, panSum_v, rdigits_v, rsum_v, panLuhn_v, rLuhn_v, panCheck_v, rCheck_v, panCd_v, rCd_v, isPrefix_v, rMake_v, isLet_v, isId_v, isNm_v, isTm_v, rIsId_v, rIsNm_v, rDomain_v, fn, e1, e2, e3, e4, e5, e6, c5, hst0, hsb0, sz, (show IntKind.i64.wrap (0 + 1) = 1 from rfl)]
  refine ⟨[(vb, (Obj.cells #[.string (bs p), .int .i64 (len : Int), .slice (some ⟨g, 0, none⟩) L.length cap, .map (some mr)] 63)), (mr, .map es cl), (g, (Obj.cells (cur.setIfInBounds (i * 7 + 5) (.int .i64 tw)) 53))], ⟨mr, (.slice (some ⟨g, 0, none⟩) L.length cap), es, cl, [(g, (Obj.cells (cur.setIfInBounds (i * 7 + 5) (.int .i64 tw)) 53))], rfl, by rw [mapT_set L 0 i { x with st := tw } x hx rfl]; exact hm, hset, g1, by simp [Vm.look, e2], by simp [Vm.look, e3], tokOk_set hok hx rfl⟩, SubA.fresh (by simp [Vm.look, e4, e5, e6]) (SubA.refl _), fun b hb => dom3s hb, fun b hb => dom4 hb⟩

theorem delU_h (E : AH) (vb : Nat) (p : List UInt8) (len : Nat) (L : List Tok) (hE : VauP E vb p len L) (s : List UInt8) (i : Nat) (x : Tok) (hi : posT s L = some i) (hx : L[i]? = some x) (hst : x.st ≠ 1) (hsb : x.st = 2) : CallA Tryd.prog 13 #[.pointer (some ⟨vb, 0, none⟩), .string (bs s)] E (fun u_ A_ => u_ = .int .i64 0 ∧ ∃ E', VauP E' vb p len (L.set i { x with st := 3 }) ∧ SubA E' A_ ∧ ∀ b, Vm.look E b ≠ none → Vm.look A_ b ≠ none) := by
  refine callA_of_denA ⟨Tryd.prog, 13, Tryd.f13, 9, [0, 1, 4], [33], [], _⟩ (args := [_, _]) Tryd.func13 rfl (by kernel_rfl) Tryd.ntmps13 (by simp) (by kernel_rfl) ?_
  intro ν fr; have nuE := fr.nu
  simp (maxDischargeDepth := 16) only [argE_nil, argE_cons, ↓vmD, vmV, vmStd, Nat.reduceMul, ↓reduceIte, Nat.reduceAdd, Nat.reduceSub, Nat.reduceEqDiff, Nat.reduceLT, Nat.reduceLeDiff, reduceCtorEq, Int.reduceToNat, Int.reduceLT, Int.reduceLE, Int.reduceEq, Int.reduceNeg, Int.reduceBEq, Int.reduceBNe, String.reduceEq, forall_const, ↓vmDA, vmVA, ↓vmQA, vmR, vmRA, ↓vmSA, vmSV, tyS, nuE, SubA.skip, SubA.refl, fr.2, areDigits_v, panSum_v, rdigits_v, rsum_v, panLuhn_v, rLuhn_v, panCheck_v, rCheck_v, panCd_v, rCd_v, isPrefix_v, rMake_v, isLet_v, isId_v, isNm_v, isTm_v, rIsId_v, rIsNm_v, rDomain_v, sc_int2]
  refine CallA.use (chqU_h E vb (ν 0) p len L hE s 3 1 2 i x hi hx (fr.2 0) hst hsb) (SubA.refl _) (by
    rintro v D ⟨_, E', _, hs, _, hd⟩ b hb
    exact hd b hb) [] (SubA.nil _) (fun x hx => absurd rfl hx) ?_
  rintro u D ⟨rfl, E2, hE2, hs2, hd2, _⟩ _
  refine ⟨E2, hs2, ?_⟩
  rw [List.append_nil]
  intro ν2 fr2
  have fr := fr2
  have nuE := fr.nu
  simp (maxDischargeDepth := 16) only [argE_nil, argE_cons, ↓vmD, vmV, vmStd, Nat.reduceMul, ↓reduceIte, Nat.reduceAdd, Nat.reduceSub, Nat.reduceEqDiff, Nat.reduceLT, Nat.reduceLeDiff, reduceCtorEq, Int.reduceToNat, Int.reduceLT, Int.reduceLE, Int.reduceEq, Int.reduceNeg, Int.reduceBEq, Int.reduceBNe, String.reduceEq, forall_const, ↓vmDA, vmVA, ↓vmQA, vmR, vmRA, ↓vmSA, vmSV, tyS, nuE, SubA.skip, SubA.refl, fr.2, areDigits_v, panSum_v, rdigits_v, rsum_v, panLuhn_v, rLuhn_v, panCheck_v, rCheck_v, panCd_v, rCd_v, isPrefix_v, rMake_v, isLet_v, isId_v, isNm_v, isTm_v, rIsId_v, rIsNm_v, rDomain_v]
  exact ⟨E2, hE2, SubA.refl _, hd2⟩

theorem repl_h (E : AH) (vb : Nat) (p : List UInt8) (len : Nat) (L : List Tok) (hE : VauP E vb p len L) (s num : List UInt8) (hnum : num.length ≤ 10000) : CallA Tryd.prog 15 #[.pointer (some ⟨vb, 0, none⟩), .string (bs s), .string (bs num)] E (fun u_ A_ => u_ = .int .i64 (replX p len L s num).1 ∧ ∃ E', VauP E' vb p len (replX p len L s num).2 ∧ SubA E' A_ ∧ ∀ x, Vm.look E x ≠ none → Vm.look A_ x ≠ none) := by
  refine callA_of_denA ⟨Tryd.prog, 15, Tryd.f15, 29, [0, 1, 2, 6, 7, 8], [], [], _⟩ (args := [_, _, _]) Tryd.func15 rfl (by kernel_rfl) Tryd.ntmps15 (by simp) (by kernel_rfl) ?_
  intro ν fr; have nuE := fr.nu
  have cn := checkNum_v E vb p len L hE num hnum
  cases hp : posT s L with
  | none =>
    have fn := findN_v E vb p len L hE s hp
    have e : replX p len L s num = (6, L) := by unfold replX; rw [hp]
    simp (maxDischargeDepth := 16) only [argE_nil, argE_cons, ↓vmD, vmV, vmStd, Nat.reduceMul, ↓reduceIte, Nat.reduceAdd, Nat.reduceSub, Nat.reduceEqDiff, Nat.reduceLT, Nat.reduceLeDiff, reduceCtorEq, Int.reduceToNat, Int.reduceLT, Int.reduceLE, Int.reduceEq, Int.reduceNeg, Int.reduceBEq, Int.reduceBNe, String.reduceEq, forall_const, ↓vmDA, vmVA, ↓vmQA, vmR, vmRA, ↓vmSA, vmSV, tyS, nuE, SubA.skip, SubA.refl, fr.2, areDigits_v, panSum_v, rdigits_v, rsum_v, panLuhn_v, rLuhn_v, panCheck_v, rCheck_v, panCd_v, rCd_v, isPrefix_v, rMake_v, isLet_v, isId_v, isNm_v, isTm_v, rIsId_v, rIsNm_v, rDomain_v, fn, e]
    exact ⟨E, hE, SubA.refl _, fun x hx => hx⟩
  | some i =>
    obtain ⟨x, hx, hxs, hlt⟩ := posT_lt hp
    have hr : replX p len L s num = if x.st = 3 then (8, L) else if chk num ≠ 0 then (chk num, L) else if isV p len num = true then (4, L) else (0, L.set i { x with pan := num }) := by unfold replX; simp only [hp, hx]
    have hE0 := hE
    obtain ⟨mr, g, cap, cl, cur, es, rfl, hm, ho, g1, g2, g3, hok, _, hcr, hcc⟩ := vau_at hE hx
    have e1 : ((vb = mr) = False) ∧ ((mr = vb) = False) := ⟨eq_false g1, eq_false fun e => g1 e.symm⟩
    have e2 : ((vb = g) = False) ∧ ((g = vb) = False) := ⟨eq_false g2, eq_false fun e => g2 e.symm⟩
    have e3 : ((mr = g) = False) ∧ ((g = mr) = False) := ⟨eq_false g3, eq_false fun e => g3 e.symm⟩
    have fn := findS_v vb mr g cap cur es cl p len L s i hm g1 hok.2.2.2.2.2.1 hp
    have c5 := hcc 5 _ rfl
    by_cases h1 : x.st = 3
    · have e : replX p len L s num = (8, L) := by rw [hr, if_pos h1]
      have h1t := eq_true h1
      simp (maxDischargeDepth := 16) only [argE_nil, argE_cons, ↓vmD, vmV, vmStd, Nat.reduceMul, ↓reduceIte, Nat.reduceAdd, Nat.reduceSub, Nat.reduceEqDiff, Nat.reduceLT, Nat.reduceLeDiff, reduceCtorEq, Int.reduceToNat, Int.reduceLT, Int.reduceLE, Int.reduceEq, Int.reduceNeg, Int.reduceBEq, Int.reduceBNe, String.reduceEq, forall_const, ↓vmDA, vmVA, ↓vmQA, vmR, vmRA, ↓vmSA, vmSV, tyS, nuE, SubA.skip, SubA.refl, fr.2, areDigits_v, panSum_v, rdigits_v, rsum_v, panLuhn_v, rLuhn_v, panCheck_v, rCheck_v, panCd_v, rCd_v, isPrefix_v, rMake_v, isLet_v, isId_v, isNm_v, isTm_v, rIsId_v, rIsNm_v, rDomain_v, fn, e, e1, e2, e3, c5, h1t]
      exact ⟨_, hE0, SubA.refl _, fun x hx => hx⟩
    · by_cases h2 : chk num = 0
      rotate_left
      · have e : replX p len L s num = (chk num, L) := by rw [hr, if_neg h1, if_pos h2]
        have q : (if chk num ≠ 0 then chk num else if isV p len num = true then (4 : Int) else 0) = chk num := if_pos h2
        rw [q] at cn
        have z : decide (chk num = 0) = false := by simpa using h2
        simp (maxDischargeDepth := 16) only [argE_nil, argE_cons, ↓vmD, vmV, vmStd, Nat.reduceMul, ↓reduceIte, Nat.reduceAdd, Nat.reduceSub, Nat.reduceEqDiff, Nat.reduceLT, Nat.reduceLeDiff, reduceCtorEq, Int.reduceToNat, Int.reduceLT, Int.reduceLE, Int.reduceEq, Int.reduceNeg, Int.reduceBEq, Int.reduceBNe, String.reduceEq, forall_const, ↓vmDA, vmVA, ↓vmQA, vmR, vmRA, ↓vmSA, vmSV, tyS, nuE, SubA.skip, SubA.refl, fr.2, areDigits_v, panSum_v, rdigits_v, rsum_v, panLuhn_v, rLuhn_v, panCheck_v, rCheck_v, panCd_v, rCd_v, isPrefix_v, rMake_v, isLet_v, isId_v, isNm_v, isTm_v, rIsId_v, rIsNm_v, rDomain_v, fn, e, e1, e2, e3, c5, h1, cn, chk_bne, z]
        exact ⟨_, hE0, SubA.refl _, fun x hx => hx⟩
      have h2' : ¬ chk num ≠ 0 := fun h => h h2
      rw [if_neg h2'] at cn
      cases h3 : isV p len num with
      | true =>
        have e : replX p len L s num = (4, L) := by rw [hr, if_neg h1, if_neg h2', if_pos h3]
        rw [if_pos h3] at cn
        simp (maxDischargeDepth := 16) only [argE_nil, argE_cons, ↓vmD, vmV, vmStd, Nat.reduceMul, ↓reduceIte, Nat.reduceAdd, Nat.reduceSub, Nat.reduceEqDiff, Nat.reduceLT, Nat.reduceLeDiff, reduceCtorEq, Int.reduceToNat, Int.reduceLT, Int.reduceLE, Int.reduceEq, Int.reduceNeg, Int.reduceBEq, Int.reduceBNe, String.reduceEq, forall_const, ↓vmDA, vmVA, ↓vmQA, vmR, vmRA, ↓vmSA, vmSV, tyS, nuE, SubA.skip, SubA.refl, fr.2, areDigits_v, panSum_v, rdigits_v, rsum_v, panLuhn_v, rLuhn_v, panCheck_v, rCheck_v, panCd_v, rCd_v, isPrefix_v, rMake_v, isLet_v, isId_v, isNm_v, isTm_v, rIsId_v, rIsNm_v, rDomain_v, fn, e, e1, e2, e3, c5, h1, cn]
        exact ⟨_, hE0, SubA.refl _, fun x hx => hx⟩
      | false =>
        have e : replX p len L s num = (0, L.set i { x with pan := num }) := by rw [hr, if_neg h1, if_neg h2', if_neg (by rw [h3]; simp)]
        rw [if_neg (by rw [h3]; simp)] at cn
        obtain ⟨hset, hsz⟩ := ho.set tok_len hlt { x with pan := num }
        rw [splice_pan num hcc] at hset
        have sz : (i * 7 + 1 + 1 ≤ cur.size) = True := eq_true (by omega)
        simp (maxDischargeDepth := 16) only [argE_nil, argE_cons, ↓vmD, vmV, vmStd, Nat.reduceMul, ↓reduceIte, Nat.reduceAdd, Nat.reduceSub, Nat.reduceEqDiff, Nat.reduceLT, Nat.reduceLeDiff, reduceCtorEq, Int.reduceToNat, Int.reduceLT, Int.reduceLE, Int.reduceEq, Int.reduceNeg, Int.reduceBEq, Int.reduceBNe, String.reduceEq, forall_const, ↓vmDA, vmVA, ↓vmQA, vmR, vmRA, ↓vmSA, vmSV, tyS, nuE, SubA.skip, SubA.refl, fr.2, areDigits_v, panSum_v, rdigits_v, rsum_v, panLuhn_v, rLuhn_v, panCheck_v, rCheck_v, panCd_v, rCd_v, isPrefix_v, rMake_v, isLet_v, isId_v, isNm_v, isTm_v, rIsId_v, rIsNm_v, rDomain_v, fn, e, e1, e2, e3, c5, h1, cn, sz]
        exact ⟨_, ⟨mr, _, es, cl, _, rfl, by rw [mapT_set L 0 i { x with pan := num } x hx rfl]; exact hm, hset, g1, by simp [Vm.look, e2], by simp [Vm.look, e3], tokOk_set hok hx rfl⟩, SubA.refl _, fun y hy => dom3s hy⟩

set_option linter.unusedSimpArgs false
set_option linter.unusedVariables false
set_option maxHeartbeats 4000000
set_option maxRecDepth 20000
theorem sub_dom {A B : AH} (h : SubA A B) : ∀ x, Vm.look A x ≠ none → Vm.look B x ≠ none := fun x hx => by
  cases hl : Vm.look A x with
  | none => exact absurd hl hx
  | some o => rw [h x o hl]; simp
theorem moveX_none {L : List Tok} {s : List UInt8} {a b tw : Int} (h : posT s L = none) : moveX L s a b tw = (6, L) := by unfold moveX; rw [h]
theorem moveX_yes {L : List Tok} {s : List UInt8} {a b tw : Int} {i : Nat} {x : Tok} (h : posT s L = some i) (hx : L[i]? = some x) (hs : x.st = a ∨ x.st = b) : moveX L s a b tw = (0, L.set i { x with st := tw }) := by unfold moveX; simp only [h, hx]; rw [if_pos hs]
theorem moveX_no {L : List Tok} {s : List UInt8} {a b tw : Int} {i : Nat} {x : Tok} (h : posT s L = some i) (hx : L[i]? = some x) (hs : ¬ (x.st = a ∨ x.st = b)) : moveX L s a b tw = (8, L) := by unfold moveX; simp only [h, hx]; rw [if_neg hs]
theorem suspA (E : AH) (vb : Nat) (p : List UInt8) (len : Nat) (L : List Tok) (hE : VauP E vb p len L) (s : List UInt8) : CallA Tryd.prog 10 #[.pointer (some ⟨vb, 0, none⟩), .string (bs s)] E fun u_ A_ => u_ = .int .i64 (moveX L s 1 1 2).1 ∧ ∃ E', VauP E' vb p len (moveX L s 1 1 2).2 ∧ SubA E' A_ ∧ ∀ x, Vm.look E x ≠ none → Vm.look A_ x ≠ none := by
  cases hp : posT s L with
  | none =>
    rw [moveX_none hp]
    exact (suspN_h E vb p len L hE s hp).mono fun v D h => ⟨h.1, E, hE, h.2, sub_dom h.2⟩
  | some i =>
    obtain ⟨x, hx, hxs, hlt⟩ := posT_lt hp
    by_cases h1 : x.st = 1
    · rw [moveX_yes hp hx (.inl h1)]
      exact suspT_h E vb p len L hE s i x hp hx h1
    · rw [moveX_no hp hx (by simp [h1])]
      exact (suspS_h E vb p len L hE s i x hp hx h1).mono fun v D h => ⟨h.1, E, hE, h.2, sub_dom h.2⟩
theorem resuA (E : AH) (vb : Nat) (p : List UInt8) (len : Nat) (L : List Tok) (hE : VauP E vb p len L) (s : List UInt8) : CallA Tryd.prog 14 #[.pointer (some ⟨vb, 0, none⟩), .string (bs s)] E fun u_ A_ => u_ = .int .i64 (moveX L s 2 2 1).1 ∧ ∃ E', VauP E' vb p len (moveX L s 2 2 1).2 ∧ SubA E' A_ ∧ ∀ x, Vm.look E x ≠ none → Vm.look A_ x ≠ none := by
  cases hp : posT s L with
  | none =>
    rw [moveX_none hp]
    exact (resuN_h E vb p len L hE s hp).mono fun v D h => ⟨h.1, E, hE, h.2, sub_dom h.2⟩
  | some i =>
    obtain ⟨x, hx, hxs, hlt⟩ := posT_lt hp
    by_cases h1 : x.st = 2
    · rw [moveX_yes hp hx (.inl h1)]
      exact resuT_h E vb p len L hE s i x hp hx h1
    · rw [moveX_no hp hx (by simp [h1])]
      exact (resuS_h E vb p len L hE s i x hp hx h1).mono fun v D h => ⟨h.1, E, hE, h.2, sub_dom h.2⟩
theorem deleA (E : AH) (vb : Nat) (p : List UInt8) (len : Nat) (L : List Tok) (hE : VauP E vb p len L) (s : List UInt8) : CallA Tryd.prog 13 #[.pointer (some ⟨vb, 0, none⟩), .string (bs s)] E fun u_ A_ => u_ = .int .i64 (moveX L s 1 2 3).1 ∧ ∃ E', VauP E' vb p len (moveX L s 1 2 3).2 ∧ SubA E' A_ ∧ ∀ x, Vm.look E x ≠ none → Vm.look A_ x ≠ none := by
  cases hp : posT s L with
  | none =>
    rw [moveX_none hp]
    exact (delN_h E vb p len L hE s hp).mono fun v D h => ⟨h.1, E, hE, h.2, sub_dom h.2⟩
  | some i =>
    obtain ⟨x, hx, hxs, hlt⟩ := posT_lt hp
    by_cases h1 : x.st = 1
    · rw [moveX_yes hp hx (.inl h1)]
      exact delT_h E vb p len L hE s i x hp hx h1
    · by_cases h2 : x.st = 2
      · rw [moveX_yes hp hx (.inr h2)]
        exact delU_h E vb p len L hE s i x hp hx h1 h2
      · rw [moveX_no hp hx (by simp [h1, h2])]
        exact (delS_h E vb p len L hE s i x hp hx h1 h2).mono fun v D h => ⟨h.1, E, hE, h.2, sub_dom h.2⟩
def resV (L : List Tok) (s req mer : List UInt8) (at_ : Int) : Value := match posT s L with | none => ansV 6 | some i => match L[i]? with | none => ansV 6 | some x => resX x req mer at_
theorem resV_two (L : List Tok) (s req mer : List UInt8) (at_ : Int) : ∃ a e, resV L s req mer at_ = .tuple #[.string a, .int .i64 e] := by
  unfold resV ansV resX
  split
  · exact ⟨_, _, rfl⟩
  · split
    · exact ⟨_, _, rfl⟩
    · split <;> exact ⟨_, _, rfl⟩
theorem provV_two (p : List UInt8) (len : Nat) (L : List Tok) (num req mer : List UInt8) (unt at_ : Int) : ∃ a e, provV p len L num req mer unt at_ = .tuple #[.string a, .int .i64 e] := by
  unfold provV
  split <;> exact ⟨_, _, rfl⟩
theorem resolveP (E : AH) (vb : Nat) (p : List UInt8) (len : Nat) (L : List Tok) (hE : VauP E vb p len L) (s req mer : List UInt8) (at_ : Int) (B : AH) (hB : SubA E B) : valA Tryd.prog 11 #[.pointer (some ⟨vb, 0, none⟩), .string (bs s), .string (bs req), .string (bs mer), .int .i64 at_] B = some (resV L s req mer at_) := by
  cases hp : posT s L with
  | none =>
    have e : resV L s req mer at_ = ansV 6 := by unfold resV; rw [hp]
    rw [e]
    exact resN_w E vb p len L hE s req mer at_ hp B hB
  | some i =>
    obtain ⟨x, hx, hxs, hlt⟩ := posT_lt hp
    have e : resV L s req mer at_ = resX x req mer at_ := by unfold resV; simp only [hp, hx]
    rw [e]
    exact resS_w E vb p len L hE s req mer at_ i x hp hx B hB
/-- A call of the law. -/
structure DoT where
  kind : Nat
  pick : Nat
  num : List UInt8
  tok : List UInt8
  req : List UInt8
  mer : List UInt8
  dq : List UInt8
  dm : List UInt8
  unt : Int
  at_ : Int
def doC (x : DoT) : List Value := [.int .u8 (x.kind : Int), .int .u8 (x.pick : Int), .string (bs x.num), .string (bs x.tok), .string (bs x.req), .string (bs x.mer), .string (bs x.dq), .string (bs x.dm), .int .i64 x.unt, .int .i64 x.at_]
theorem doC_len (x : DoT) : (doC x).length = 10 := rfl
/-- What a call with a token answers, and the tokens afterwards. -/
def doY (p : List UInt8) (len : Nat) (L : List Tok) (x : DoT) (s : List UInt8) : Value × List Tok :=
  if x.kind % 6 = 0 then (provV p len L x.num x.dq x.dm x.unt x.at_, provL p len L x.num x.dq x.dm x.unt x.at_)
  else if x.kind % 6 = 1 then (resV L s x.req x.mer x.at_, L)
  else if x.kind % 6 = 2 then (ansV (moveX L s 1 1 2).1, (moveX L s 1 1 2).2)
  else if x.kind % 6 = 3 then (ansV (moveX L s 2 2 1).1, (moveX L s 2 2 1).2)
  else if x.kind % 6 = 4 then (ansV (moveX L s 1 2 3).1, (moveX L s 1 2 3).2)
  else (ansV (replX p len L s x.num).1, (replX p len L s x.num).2)
theorem CallA.keep0 {P : Program} {g : FuncId} {args : Array Value} {A A0 : AH} {K0 K : Value → AH → Prop} (hc : CallA P g args A0 K0) (hs : SubA A0 A) (h0 : ∀ v D, K0 v D → ∀ b, Vm.look A0 b ≠ none → Vm.look D b ≠ none) (hk : ∀ v D, K0 v D → K v D) : CallA P g args A K :=
  CallA.use hc hs h0 [] (SubA.nil _) (fun x hx => absurd rfl hx) (fun v D h _ => ⟨D, SubA.refl _, by rw [List.append_nil]; exact hk v D h⟩)
theorem CallA.keepX {P : Program} {g : FuncId} {args : Array Value} {A A0 X : AH} {K0 K : Value → AH → Prop} (hc : CallA P g args A0 K0) (hs : SubA A0 A) (hX : SubA X A) (hd : Dis A0 X) (h0 : ∀ v D, K0 v D → ∀ b, Vm.look A0 b ≠ none → Vm.look D b ≠ none) (hk : ∀ v D, K0 v D → Dis D X → K v (D ++ X)) : CallA P g args A K :=
  CallA.use hc hs h0 X hX hd (fun v D h dD => ⟨D, SubA.refl _, hk v D h dD⟩)
theorem app_dom {E D A : AH} (h : ∀ y, Vm.look E y ≠ none → Vm.look D y ≠ none) : ∀ y, Vm.look (E ++ A) y ≠ none → Vm.look (D ++ A) y ≠ none := fun y hy => by
  rw [look_append] at hy ⊢
  cases hD : Vm.look D y with
  | some o => simp
  | none =>
    cases hE : Vm.look E y with
    | some o => exact absurd hD (h y (by rw [hE]; simp))
    | none => rw [hE] at hy; simpa using hy
theorem SubA.app2 {E D A : AH} (h : SubA E D) (d : Dis D A) : SubA (E ++ A) (D ++ A) := SubA.both (SubA.trans h (SubA.left D A)) d.right
theorem callP_h (E A : AH) (d : Dis E A) (hT : TabA A) (vb : Nat) (p : List UInt8) (len : Nat) (L : List Tok) (hE : VauP E vb p len L) (x : DoT) (s : List UInt8) (hnum : x.num.length ≤ 10000) (hdq : x.dq.length ≤ 1000000) (hdm : x.dm.length ≤ 1000000) : CallA Tryd.prog 18 #[.pointer (some ⟨vb, 0, none⟩), .agg #[.int .u8 (x.kind : Int), .int .u8 (x.pick : Int), .string (bs x.num), .string (bs x.tok), .string (bs x.req), .string (bs x.mer), .string (bs x.dq), .string (bs x.dm), .int .i64 x.unt, .int .i64 x.at_], .string (bs s)] (E ++ A) (fun u_ A_ => u_ = (doY p len L x s).1 ∧ ∃ E', VauP E' vb p len (doY p len L x s).2 ∧ Dis E' A ∧ SubA (E' ++ A) A_ ∧ ∀ y, Vm.look (E ++ A) y ≠ none → Vm.look A_ y ≠ none) := by
  refine callA_of_denA ⟨Tryd.prog, 18, Tryd.f18, 56, [0, 1, 2, 4, 6, 7, 10], [9, 10, 14, 13, 15], [], _⟩ (args := [_, _, _]) Tryd.func18 rfl (by kernel_rfl) Tryd.ntmps18 (by simp) (by kernel_rfl) ?_
  intro ν fr; have nuE := fr.nu
  have f0 := fr.2 0
  have tm : ((x.kind : Int)).tmod 6 = ((x.kind % 6 : Nat) : Int) := by rw [Int.tmod_eq_emod_of_nonneg (by omega)]; omega
  have s0 : SubA (E ++ A) ((ν 0, (Obj.cells #[.int .u8 (x.kind : Int), .int .u8 (x.pick : Int), .string (bs x.num), .string (bs x.tok), .string (bs x.req), .string (bs x.mer), .string (bs x.dq), .string (bs x.dm), .int .i64 x.unt, .int .i64 x.at_] 48)) :: (E ++ A)) := SubA.skip f0 (SubA.refl _)
  have sE : SubA E ((ν 0, (Obj.cells #[.int .u8 (x.kind : Int), .int .u8 (x.pick : Int), .string (bs x.num), .string (bs x.tok), .string (bs x.req), .string (bs x.mer), .string (bs x.dq), .string (bs x.dm), .int .i64 x.unt, .int .i64 x.at_] 48)) :: (E ++ A)) := SubA.trans (SubA.left E A) s0
  have sA : SubA A ((ν 0, (Obj.cells #[.int .u8 (x.kind : Int), .int .u8 (x.pick : Int), .string (bs x.num), .string (bs x.tok), .string (bs x.req), .string (bs x.mer), .string (bs x.dq), .string (bs x.dm), .int .i64 x.unt, .int .i64 x.at_] 48)) :: (E ++ A)) := SubA.trans d.right s0
  have fin : ∀ (L' : List Tok) (D : AH), (∃ E', VauP E' vb p len L' ∧ SubA E' D ∧ ∀ y, Vm.look E y ≠ none → Vm.look D y ≠ none) → Dis D A → ∃ E', VauP E' vb p len L' ∧ Dis E' A ∧ SubA (E' ++ A) (D ++ A) ∧ ∀ y, Vm.look (E ++ A) y ≠ none → Vm.look (D ++ A) y ≠ none :=
    fun L' D ⟨E', h1, h2, h3⟩ dD => ⟨E', h1, dD.subl h2, SubA.app2 h2 dD, app_dom h3⟩
  rcases (show x.kind % 6 = 0 ∨ x.kind % 6 = 1 ∨ x.kind % 6 = 2 ∨ x.kind % 6 = 3 ∨ x.kind % 6 = 4 ∨ x.kind % 6 = 5 by omega) with h | h | h | h | h | h
  · rw [h] at tm
    have e : doY p len L x s = (provV p len L x.num x.dq x.dm x.unt x.at_, provL p len L x.num x.dq x.dm x.unt x.at_) := by unfold doY; rw [if_pos h]
    rw [e]
    obtain ⟨a, er, hv⟩ := provV_two p len L x.num x.dq x.dm x.unt x.at_
    simp (maxDischargeDepth := 16) only [argE_nil, argE_cons, ↓vmD, vmV, vmStd, Nat.reduceMul, ↓reduceIte, Nat.reduceAdd, Nat.reduceSub, Nat.reduceEqDiff, Nat.reduceLT, Nat.reduceLeDiff, reduceCtorEq, Int.reduceToNat, Int.reduceLT, Int.reduceLE, Int.reduceEq, Int.reduceNeg, Int.reduceBEq, Int.reduceBNe, String.reduceEq, forall_const, ↓vmDA, vmVA, ↓vmQA, vmR, vmRA, ↓vmSA, vmSV, tyS, nuE, SubA.skip, SubA.refl, fr.2, areDigits_v, panSum_v, rdigits_v, rsum_v, panLuhn_v, rLuhn_v, panCheck_v, rCheck_v, panCd_v, rCd_v, isPrefix_v, rMake_v, isLet_v, isId_v, isNm_v, isTm_v, rIsId_v, rIsNm_v, rDomain_v, tm]
    refine CallA.keep0 (provP_h E A d hT vb p len L hE x.num x.dq x.dm x.unt x.at_ hnum hdq hdm) s0 (fun v D hh => hh.2.choose_spec.2.2.2) ?_
    rw [hv]
    rintro v D ⟨rfl, hh⟩
    intro ν1 fr1
    have fr := fr1
    have nuE := fr.nu
    simp (maxDischargeDepth := 16) only [argE_nil, argE_cons, ↓vmD, vmV, vmStd, Nat.reduceMul, ↓reduceIte, Nat.reduceAdd, Nat.reduceSub, Nat.reduceEqDiff, Nat.reduceLT, Nat.reduceLeDiff, reduceCtorEq, Int.reduceToNat, Int.reduceLT, Int.reduceLE, Int.reduceEq, Int.reduceNeg, Int.reduceBEq, Int.reduceBNe, String.reduceEq, forall_const, ↓vmDA, vmVA, ↓vmQA, vmR, vmRA, ↓vmSA, vmSV, tyS, nuE, SubA.skip, SubA.refl, fr.2, areDigits_v, panSum_v, rdigits_v, rsum_v, panLuhn_v, rLuhn_v, panCheck_v, rCheck_v, panCd_v, rCd_v, isPrefix_v, rMake_v, isLet_v, isId_v, isNm_v, isTm_v, rIsId_v, rIsNm_v, rDomain_v]
    exact hh
  · rw [h] at tm
    have e : doY p len L x s = (resV L s x.req x.mer x.at_, L) := by unfold doY; rw [if_neg (by omega), if_pos h]
    rw [e]
    obtain ⟨a, er, hv⟩ := resV_two L s x.req x.mer x.at_
    have rv := resolveP E vb p len L hE s x.req x.mer x.at_ _ sE
    rw [hv] at rv
    simp (maxDischargeDepth := 16) only [argE_nil, argE_cons, ↓vmD, vmV, vmStd, Nat.reduceMul, ↓reduceIte, Nat.reduceAdd, Nat.reduceSub, Nat.reduceEqDiff, Nat.reduceLT, Nat.reduceLeDiff, reduceCtorEq, Int.reduceToNat, Int.reduceLT, Int.reduceLE, Int.reduceEq, Int.reduceNeg, Int.reduceBEq, Int.reduceBNe, String.reduceEq, forall_const, ↓vmDA, vmVA, ↓vmQA, vmR, vmRA, ↓vmSA, vmSV, tyS, nuE, SubA.skip, SubA.refl, fr.2, areDigits_v, panSum_v, rdigits_v, rsum_v, panLuhn_v, rLuhn_v, panCheck_v, rCheck_v, panCd_v, rCd_v, isPrefix_v, rMake_v, isLet_v, isId_v, isNm_v, isTm_v, rIsId_v, rIsNm_v, rDomain_v, tm, rv, hv]
    exact ⟨E, hE, d, s0, sub_dom s0⟩
  · rw [h] at tm
    have e : doY p len L x s = (ansV (moveX L s 1 1 2).1, (moveX L s 1 1 2).2) := by unfold doY; rw [if_neg (by omega), if_neg (by omega), if_pos h]
    rw [e]
    simp (maxDischargeDepth := 16) only [argE_nil, argE_cons, ↓vmD, vmV, vmStd, Nat.reduceMul, ↓reduceIte, Nat.reduceAdd, Nat.reduceSub, Nat.reduceEqDiff, Nat.reduceLT, Nat.reduceLeDiff, reduceCtorEq, Int.reduceToNat, Int.reduceLT, Int.reduceLE, Int.reduceEq, Int.reduceNeg, Int.reduceBEq, Int.reduceBNe, String.reduceEq, forall_const, ↓vmDA, vmVA, ↓vmQA, vmR, vmRA, ↓vmSA, vmSV, tyS, nuE, SubA.skip, SubA.refl, fr.2, areDigits_v, panSum_v, rdigits_v, rsum_v, panLuhn_v, rLuhn_v, panCheck_v, rCheck_v, panCd_v, rCd_v, isPrefix_v, rMake_v, isLet_v, isId_v, isNm_v, isTm_v, rIsId_v, rIsNm_v, rDomain_v, tm]
    refine CallA.keepX (suspA E vb p len L hE s) sE sA d (fun v D hh => hh.2.choose_spec.2.2) ?_
    rintro v D ⟨rfl, hh⟩ dD
    intro ν1 fr1
    have fr := fr1
    have nuE := fr.nu
    simp (maxDischargeDepth := 16) only [argE_nil, argE_cons, ↓vmD, vmV, vmStd, Nat.reduceMul, ↓reduceIte, Nat.reduceAdd, Nat.reduceSub, Nat.reduceEqDiff, Nat.reduceLT, Nat.reduceLeDiff, reduceCtorEq, Int.reduceToNat, Int.reduceLT, Int.reduceLE, Int.reduceEq, Int.reduceNeg, Int.reduceBEq, Int.reduceBNe, String.reduceEq, forall_const, ↓vmDA, vmVA, ↓vmQA, vmR, vmRA, ↓vmSA, vmSV, tyS, nuE, SubA.skip, SubA.refl, fr.2, areDigits_v, panSum_v, rdigits_v, rsum_v, panLuhn_v, rLuhn_v, panCheck_v, rCheck_v, panCd_v, rCd_v, isPrefix_v, rMake_v, isLet_v, isId_v, isNm_v, isTm_v, rIsId_v, rIsNm_v, rDomain_v, ansV]
    exact fin _ _ hh dD
  · rw [h] at tm
    have e : doY p len L x s = (ansV (moveX L s 2 2 1).1, (moveX L s 2 2 1).2) := by unfold doY; rw [if_neg (by omega), if_neg (by omega), if_neg (by omega), if_pos h]
    rw [e]
    simp (maxDischargeDepth := 16) only [argE_nil, argE_cons, ↓vmD, vmV, vmStd, Nat.reduceMul, ↓reduceIte, Nat.reduceAdd, Nat.reduceSub, Nat.reduceEqDiff, Nat.reduceLT, Nat.reduceLeDiff, reduceCtorEq, Int.reduceToNat, Int.reduceLT, Int.reduceLE, Int.reduceEq, Int.reduceNeg, Int.reduceBEq, Int.reduceBNe, String.reduceEq, forall_const, ↓vmDA, vmVA, ↓vmQA, vmR, vmRA, ↓vmSA, vmSV, tyS, nuE, SubA.skip, SubA.refl, fr.2, areDigits_v, panSum_v, rdigits_v, rsum_v, panLuhn_v, rLuhn_v, panCheck_v, rCheck_v, panCd_v, rCd_v, isPrefix_v, rMake_v, isLet_v, isId_v, isNm_v, isTm_v, rIsId_v, rIsNm_v, rDomain_v, tm]
    refine CallA.keepX (resuA E vb p len L hE s) sE sA d (fun v D hh => hh.2.choose_spec.2.2) ?_
    rintro v D ⟨rfl, hh⟩ dD
    intro ν1 fr1
    have fr := fr1
    have nuE := fr.nu
    simp (maxDischargeDepth := 16) only [argE_nil, argE_cons, ↓vmD, vmV, vmStd, Nat.reduceMul, ↓reduceIte, Nat.reduceAdd, Nat.reduceSub, Nat.reduceEqDiff, Nat.reduceLT, Nat.reduceLeDiff, reduceCtorEq, Int.reduceToNat, Int.reduceLT, Int.reduceLE, Int.reduceEq, Int.reduceNeg, Int.reduceBEq, Int.reduceBNe, String.reduceEq, forall_const, ↓vmDA, vmVA, ↓vmQA, vmR, vmRA, ↓vmSA, vmSV, tyS, nuE, SubA.skip, SubA.refl, fr.2, areDigits_v, panSum_v, rdigits_v, rsum_v, panLuhn_v, rLuhn_v, panCheck_v, rCheck_v, panCd_v, rCd_v, isPrefix_v, rMake_v, isLet_v, isId_v, isNm_v, isTm_v, rIsId_v, rIsNm_v, rDomain_v, ansV]
    exact fin _ _ hh dD
  · rw [h] at tm
    have e : doY p len L x s = (ansV (moveX L s 1 2 3).1, (moveX L s 1 2 3).2) := by unfold doY; rw [if_neg (by omega), if_neg (by omega), if_neg (by omega), if_neg (by omega), if_pos h]
    rw [e]
    simp (maxDischargeDepth := 16) only [argE_nil, argE_cons, ↓vmD, vmV, vmStd, Nat.reduceMul, ↓reduceIte, Nat.reduceAdd, Nat.reduceSub, Nat.reduceEqDiff, Nat.reduceLT, Nat.reduceLeDiff, reduceCtorEq, Int.reduceToNat, Int.reduceLT, Int.reduceLE, Int.reduceEq, Int.reduceNeg, Int.reduceBEq, Int.reduceBNe, String.reduceEq, forall_const, ↓vmDA, vmVA, ↓vmQA, vmR, vmRA, ↓vmSA, vmSV, tyS, nuE, SubA.skip, SubA.refl, fr.2, areDigits_v, panSum_v, rdigits_v, rsum_v, panLuhn_v, rLuhn_v, panCheck_v, rCheck_v, panCd_v, rCd_v, isPrefix_v, rMake_v, isLet_v, isId_v, isNm_v, isTm_v, rIsId_v, rIsNm_v, rDomain_v, tm]
    refine CallA.keepX (deleA E vb p len L hE s) sE sA d (fun v D hh => hh.2.choose_spec.2.2) ?_
    rintro v D ⟨rfl, hh⟩ dD
    intro ν1 fr1
    have fr := fr1
    have nuE := fr.nu
    simp (maxDischargeDepth := 16) only [argE_nil, argE_cons, ↓vmD, vmV, vmStd, Nat.reduceMul, ↓reduceIte, Nat.reduceAdd, Nat.reduceSub, Nat.reduceEqDiff, Nat.reduceLT, Nat.reduceLeDiff, reduceCtorEq, Int.reduceToNat, Int.reduceLT, Int.reduceLE, Int.reduceEq, Int.reduceNeg, Int.reduceBEq, Int.reduceBNe, String.reduceEq, forall_const, ↓vmDA, vmVA, ↓vmQA, vmR, vmRA, ↓vmSA, vmSV, tyS, nuE, SubA.skip, SubA.refl, fr.2, areDigits_v, panSum_v, rdigits_v, rsum_v, panLuhn_v, rLuhn_v, panCheck_v, rCheck_v, panCd_v, rCd_v, isPrefix_v, rMake_v, isLet_v, isId_v, isNm_v, isTm_v, rIsId_v, rIsNm_v, rDomain_v, ansV]
    exact fin _ _ hh dD
  · rw [h] at tm
    have e : doY p len L x s = (ansV (replX p len L s x.num).1, (replX p len L s x.num).2) := by unfold doY; rw [if_neg (by omega), if_neg (by omega), if_neg (by omega), if_neg (by omega), if_neg (by omega)]
    rw [e]
    simp (maxDischargeDepth := 16) only [argE_nil, argE_cons, ↓vmD, vmV, vmStd, Nat.reduceMul, ↓reduceIte, Nat.reduceAdd, Nat.reduceSub, Nat.reduceEqDiff, Nat.reduceLT, Nat.reduceLeDiff, reduceCtorEq, Int.reduceToNat, Int.reduceLT, Int.reduceLE, Int.reduceEq, Int.reduceNeg, Int.reduceBEq, Int.reduceBNe, String.reduceEq, forall_const, ↓vmDA, vmVA, ↓vmQA, vmR, vmRA, ↓vmSA, vmSV, tyS, nuE, SubA.skip, SubA.refl, fr.2, areDigits_v, panSum_v, rdigits_v, rsum_v, panLuhn_v, rLuhn_v, panCheck_v, rCheck_v, panCd_v, rCd_v, isPrefix_v, rMake_v, isLet_v, isId_v, isNm_v, isTm_v, rIsId_v, rIsNm_v, rDomain_v, tm]
    refine CallA.keepX (repl_h E vb p len L hE s x.num hnum) sE sA d (fun v D hh => hh.2.choose_spec.2.2) ?_
    rintro v D ⟨rfl, hh⟩ dD
    intro ν1 fr1
    have fr := fr1
    have nuE := fr.nu
    simp (maxDischargeDepth := 16) only [argE_nil, argE_cons, ↓vmD, vmV, vmStd, Nat.reduceMul, ↓reduceIte, Nat.reduceAdd, Nat.reduceSub, Nat.reduceEqDiff, Nat.reduceLT, Nat.reduceLeDiff, reduceCtorEq, Int.reduceToNat, Int.reduceLT, Int.reduceLE, Int.reduceEq, Int.reduceNeg, Int.reduceBEq, Int.reduceBNe, String.reduceEq, forall_const, ↓vmDA, vmVA, ↓vmQA, vmR, vmRA, ↓vmSA, vmSV, tyS, nuE, SubA.skip, SubA.refl, fr.2, areDigits_v, panSum_v, rdigits_v, rsum_v, panLuhn_v, rLuhn_v, panCheck_v, rCheck_v, panCd_v, rCd_v, isPrefix_v, rMake_v, isLet_v, isId_v, isNm_v, isTm_v, rIsId_v, rIsNm_v, rDomain_v, ansV]
    exact fin _ _ hh dD

theorem byR_h (E : AH) (rb : Nat) (p : List UInt8) (len : Nat) (L : List Tok) (hE : VauR E rb p len L) (x : DoT) (s : List UInt8) (hnum : x.num.length ≤ 10000) (hdq : x.dq.length ≤ 1000000) (hdm : x.dm.length ≤ 1000000) : CallA Tryd.prog 19 #[.pointer (some ⟨rb, 0, none⟩), .agg #[.int .u8 (x.kind : Int), .int .u8 (x.pick : Int), .string (bs x.num), .string (bs x.tok), .string (bs x.req), .string (bs x.mer), .string (bs x.dq), .string (bs x.dm), .int .i64 x.unt, .int .i64 x.at_], .string (bs s)] E (fun u_ A_ => u_ = (doY p len L x s).1 ∧ ∃ E', VauR E' rb p len (doY p len L x s).2 ∧ SubA E' A_ ∧ ∀ y, Vm.look E y ≠ none → Vm.look A_ y ≠ none) := by
  refine callA_of_denA ⟨Tryd.prog, 19, Tryd.f19, 56, [0, 1, 2, 4, 6, 7, 10], [37, 39, 40, 41, 42], [], _⟩ (args := [_, _, _]) Tryd.func19 rfl (by kernel_rfl) Tryd.ntmps19 (by simp) (by kernel_rfl) ?_
  intro ν fr; have nuE := fr.nu
  have f0 := fr.2 0
  have tm : ((x.kind : Int)).tmod 6 = ((x.kind % 6 : Nat) : Int) := by rw [Int.tmod_eq_emod_of_nonneg (by omega)]; omega
  have s0 : SubA E ((ν 0, (Obj.cells #[.int .u8 (x.kind : Int), .int .u8 (x.pick : Int), .string (bs x.num), .string (bs x.tok), .string (bs x.req), .string (bs x.mer), .string (bs x.dq), .string (bs x.dm), .int .i64 x.unt, .int .i64 x.at_] 48)) :: E) := SubA.skip f0 (SubA.refl _)
  rcases (show x.kind % 6 = 0 ∨ x.kind % 6 = 1 ∨ x.kind % 6 = 2 ∨ x.kind % 6 = 3 ∨ x.kind % 6 = 4 ∨ x.kind % 6 = 5 by omega) with h | h | h | h | h | h
  · rw [h] at tm
    have e : doY p len L x s = (provV p len L x.num x.dq x.dm x.unt x.at_, provL p len L x.num x.dq x.dm x.unt x.at_) := by unfold doY; rw [if_pos h]
    rw [e]
    obtain ⟨a, er, hv⟩ := provV_two p len L x.num x.dq x.dm x.unt x.at_
    simp (maxDischargeDepth := 16) only [argE_nil, argE_cons, ↓vmD, vmV, vmStd, Nat.reduceMul, ↓reduceIte, Nat.reduceAdd, Nat.reduceSub, Nat.reduceEqDiff, Nat.reduceLT, Nat.reduceLeDiff, reduceCtorEq, Int.reduceToNat, Int.reduceLT, Int.reduceLE, Int.reduceEq, Int.reduceNeg, Int.reduceBEq, Int.reduceBNe, String.reduceEq, forall_const, ↓vmDA, vmVA, ↓vmQA, vmR, vmRA, ↓vmSA, vmSV, tyS, nuE, SubA.skip, SubA.refl, fr.2, areDigits_v, panSum_v, rdigits_v, rsum_v, panLuhn_v, rLuhn_v, panCheck_v, rCheck_v, panCd_v, rCd_v, isPrefix_v, rMake_v, isLet_v, isId_v, isNm_v, isTm_v, rIsId_v, rIsNm_v, rDomain_v, tm]
    refine CallA.keep0 (rprov_h E rb p len L hE x.num x.dq x.dm x.unt x.at_ hnum hdq hdm) s0 (fun v D hh => hh.2.choose_spec.2.2) ?_
    rw [hv]
    rintro v D ⟨rfl, hh⟩
    intro ν1 fr1
    have fr := fr1
    have nuE := fr.nu
    simp (maxDischargeDepth := 16) only [argE_nil, argE_cons, ↓vmD, vmV, vmStd, Nat.reduceMul, ↓reduceIte, Nat.reduceAdd, Nat.reduceSub, Nat.reduceEqDiff, Nat.reduceLT, Nat.reduceLeDiff, reduceCtorEq, Int.reduceToNat, Int.reduceLT, Int.reduceLE, Int.reduceEq, Int.reduceNeg, Int.reduceBEq, Int.reduceBNe, String.reduceEq, forall_const, ↓vmDA, vmVA, ↓vmQA, vmR, vmRA, ↓vmSA, vmSV, tyS, nuE, SubA.skip, SubA.refl, fr.2, areDigits_v, panSum_v, rdigits_v, rsum_v, panLuhn_v, rLuhn_v, panCheck_v, rCheck_v, panCd_v, rCd_v, isPrefix_v, rMake_v, isLet_v, isId_v, isNm_v, isTm_v, rIsId_v, rIsNm_v, rDomain_v]
    exact hh
  · rw [h] at tm
    have e : doY p len L x s = (resV L s x.req x.mer x.at_, L) := by unfold doY; rw [if_neg (by omega), if_pos h]
    rw [e]
    obtain ⟨a, er, hv⟩ := resV_two L s x.req x.mer x.at_
    have rv : valA Tryd.prog 38 #[.pointer (some ⟨rb, 0, none⟩), .string (bs s), .string (bs x.req), .string (bs x.mer), .int .i64 x.at_] ((ν 0, (Obj.cells #[.int .u8 (x.kind : Int), .int .u8 (x.pick : Int), .string (bs x.num), .string (bs x.tok), .string (bs x.req), .string (bs x.mer), .string (bs x.dq), .string (bs x.dm), .int .i64 x.unt, .int .i64 x.at_] 48)) :: E) = some (resV L s x.req x.mer x.at_) := rresolve_w E rb p len L hE s x.req x.mer x.at_ _ s0
    rw [hv] at rv
    simp (maxDischargeDepth := 16) only [argE_nil, argE_cons, ↓vmD, vmV, vmStd, Nat.reduceMul, ↓reduceIte, Nat.reduceAdd, Nat.reduceSub, Nat.reduceEqDiff, Nat.reduceLT, Nat.reduceLeDiff, reduceCtorEq, Int.reduceToNat, Int.reduceLT, Int.reduceLE, Int.reduceEq, Int.reduceNeg, Int.reduceBEq, Int.reduceBNe, String.reduceEq, forall_const, ↓vmDA, vmVA, ↓vmQA, vmR, vmRA, ↓vmSA, vmSV, tyS, nuE, SubA.skip, SubA.refl, fr.2, areDigits_v, panSum_v, rdigits_v, rsum_v, panLuhn_v, rLuhn_v, panCheck_v, rCheck_v, panCd_v, rCd_v, isPrefix_v, rMake_v, isLet_v, isId_v, isNm_v, isTm_v, rIsId_v, rIsNm_v, rDomain_v, tm, rv, hv]
    exact ⟨E, hE, s0, sub_dom s0⟩
  · rw [h] at tm
    have e : doY p len L x s = (ansV (moveX L s 1 1 2).1, (moveX L s 1 1 2).2) := by unfold doY; rw [if_neg (by omega), if_neg (by omega), if_pos h]
    rw [e]
    simp (maxDischargeDepth := 16) only [argE_nil, argE_cons, ↓vmD, vmV, vmStd, Nat.reduceMul, ↓reduceIte, Nat.reduceAdd, Nat.reduceSub, Nat.reduceEqDiff, Nat.reduceLT, Nat.reduceLeDiff, reduceCtorEq, Int.reduceToNat, Int.reduceLT, Int.reduceLE, Int.reduceEq, Int.reduceNeg, Int.reduceBEq, Int.reduceBNe, String.reduceEq, forall_const, ↓vmDA, vmVA, ↓vmQA, vmR, vmRA, ↓vmSA, vmSV, tyS, nuE, SubA.skip, SubA.refl, fr.2, areDigits_v, panSum_v, rdigits_v, rsum_v, panLuhn_v, rLuhn_v, panCheck_v, rCheck_v, panCd_v, rCd_v, isPrefix_v, rMake_v, isLet_v, isId_v, isNm_v, isTm_v, rIsId_v, rIsNm_v, rDomain_v, tm]
    refine CallA.keep0 (rsusp_h E rb p len L hE s) s0 (fun v D hh => hh.2.choose_spec.2.2) ?_
    rintro v D ⟨rfl, hh⟩
    intro ν1 fr1
    have fr := fr1
    have nuE := fr.nu
    simp (maxDischargeDepth := 16) only [argE_nil, argE_cons, ↓vmD, vmV, vmStd, Nat.reduceMul, ↓reduceIte, Nat.reduceAdd, Nat.reduceSub, Nat.reduceEqDiff, Nat.reduceLT, Nat.reduceLeDiff, reduceCtorEq, Int.reduceToNat, Int.reduceLT, Int.reduceLE, Int.reduceEq, Int.reduceNeg, Int.reduceBEq, Int.reduceBNe, String.reduceEq, forall_const, ↓vmDA, vmVA, ↓vmQA, vmR, vmRA, ↓vmSA, vmSV, tyS, nuE, SubA.skip, SubA.refl, fr.2, areDigits_v, panSum_v, rdigits_v, rsum_v, panLuhn_v, rLuhn_v, panCheck_v, rCheck_v, panCd_v, rCd_v, isPrefix_v, rMake_v, isLet_v, isId_v, isNm_v, isTm_v, rIsId_v, rIsNm_v, rDomain_v, ansV]
    exact hh
  · rw [h] at tm
    have e : doY p len L x s = (ansV (moveX L s 2 2 1).1, (moveX L s 2 2 1).2) := by unfold doY; rw [if_neg (by omega), if_neg (by omega), if_neg (by omega), if_pos h]
    rw [e]
    simp (maxDischargeDepth := 16) only [argE_nil, argE_cons, ↓vmD, vmV, vmStd, Nat.reduceMul, ↓reduceIte, Nat.reduceAdd, Nat.reduceSub, Nat.reduceEqDiff, Nat.reduceLT, Nat.reduceLeDiff, reduceCtorEq, Int.reduceToNat, Int.reduceLT, Int.reduceLE, Int.reduceEq, Int.reduceNeg, Int.reduceBEq, Int.reduceBNe, String.reduceEq, forall_const, ↓vmDA, vmVA, ↓vmQA, vmR, vmRA, ↓vmSA, vmSV, tyS, nuE, SubA.skip, SubA.refl, fr.2, areDigits_v, panSum_v, rdigits_v, rsum_v, panLuhn_v, rLuhn_v, panCheck_v, rCheck_v, panCd_v, rCd_v, isPrefix_v, rMake_v, isLet_v, isId_v, isNm_v, isTm_v, rIsId_v, rIsNm_v, rDomain_v, tm]
    refine CallA.keep0 (rresu_h E rb p len L hE s) s0 (fun v D hh => hh.2.choose_spec.2.2) ?_
    rintro v D ⟨rfl, hh⟩
    intro ν1 fr1
    have fr := fr1
    have nuE := fr.nu
    simp (maxDischargeDepth := 16) only [argE_nil, argE_cons, ↓vmD, vmV, vmStd, Nat.reduceMul, ↓reduceIte, Nat.reduceAdd, Nat.reduceSub, Nat.reduceEqDiff, Nat.reduceLT, Nat.reduceLeDiff, reduceCtorEq, Int.reduceToNat, Int.reduceLT, Int.reduceLE, Int.reduceEq, Int.reduceNeg, Int.reduceBEq, Int.reduceBNe, String.reduceEq, forall_const, ↓vmDA, vmVA, ↓vmQA, vmR, vmRA, ↓vmSA, vmSV, tyS, nuE, SubA.skip, SubA.refl, fr.2, areDigits_v, panSum_v, rdigits_v, rsum_v, panLuhn_v, rLuhn_v, panCheck_v, rCheck_v, panCd_v, rCd_v, isPrefix_v, rMake_v, isLet_v, isId_v, isNm_v, isTm_v, rIsId_v, rIsNm_v, rDomain_v, ansV]
    exact hh
  · rw [h] at tm
    have e : doY p len L x s = (ansV (moveX L s 1 2 3).1, (moveX L s 1 2 3).2) := by unfold doY; rw [if_neg (by omega), if_neg (by omega), if_neg (by omega), if_neg (by omega), if_pos h]
    rw [e]
    simp (maxDischargeDepth := 16) only [argE_nil, argE_cons, ↓vmD, vmV, vmStd, Nat.reduceMul, ↓reduceIte, Nat.reduceAdd, Nat.reduceSub, Nat.reduceEqDiff, Nat.reduceLT, Nat.reduceLeDiff, reduceCtorEq, Int.reduceToNat, Int.reduceLT, Int.reduceLE, Int.reduceEq, Int.reduceNeg, Int.reduceBEq, Int.reduceBNe, String.reduceEq, forall_const, ↓vmDA, vmVA, ↓vmQA, vmR, vmRA, ↓vmSA, vmSV, tyS, nuE, SubA.skip, SubA.refl, fr.2, areDigits_v, panSum_v, rdigits_v, rsum_v, panLuhn_v, rLuhn_v, panCheck_v, rCheck_v, panCd_v, rCd_v, isPrefix_v, rMake_v, isLet_v, isId_v, isNm_v, isTm_v, rIsId_v, rIsNm_v, rDomain_v, tm]
    refine CallA.keep0 (rdele_h E rb p len L hE s) s0 (fun v D hh => hh.2.choose_spec.2.2) ?_
    rintro v D ⟨rfl, hh⟩
    intro ν1 fr1
    have fr := fr1
    have nuE := fr.nu
    simp (maxDischargeDepth := 16) only [argE_nil, argE_cons, ↓vmD, vmV, vmStd, Nat.reduceMul, ↓reduceIte, Nat.reduceAdd, Nat.reduceSub, Nat.reduceEqDiff, Nat.reduceLT, Nat.reduceLeDiff, reduceCtorEq, Int.reduceToNat, Int.reduceLT, Int.reduceLE, Int.reduceEq, Int.reduceNeg, Int.reduceBEq, Int.reduceBNe, String.reduceEq, forall_const, ↓vmDA, vmVA, ↓vmQA, vmR, vmRA, ↓vmSA, vmSV, tyS, nuE, SubA.skip, SubA.refl, fr.2, areDigits_v, panSum_v, rdigits_v, rsum_v, panLuhn_v, rLuhn_v, panCheck_v, rCheck_v, panCd_v, rCd_v, isPrefix_v, rMake_v, isLet_v, isId_v, isNm_v, isTm_v, rIsId_v, rIsNm_v, rDomain_v, ansV]
    exact hh
  · rw [h] at tm
    have e : doY p len L x s = (ansV (replX p len L s x.num).1, (replX p len L s x.num).2) := by unfold doY; rw [if_neg (by omega), if_neg (by omega), if_neg (by omega), if_neg (by omega), if_neg (by omega)]
    rw [e]
    simp (maxDischargeDepth := 16) only [argE_nil, argE_cons, ↓vmD, vmV, vmStd, Nat.reduceMul, ↓reduceIte, Nat.reduceAdd, Nat.reduceSub, Nat.reduceEqDiff, Nat.reduceLT, Nat.reduceLeDiff, reduceCtorEq, Int.reduceToNat, Int.reduceLT, Int.reduceLE, Int.reduceEq, Int.reduceNeg, Int.reduceBEq, Int.reduceBNe, String.reduceEq, forall_const, ↓vmDA, vmVA, ↓vmQA, vmR, vmRA, ↓vmSA, vmSV, tyS, nuE, SubA.skip, SubA.refl, fr.2, areDigits_v, panSum_v, rdigits_v, rsum_v, panLuhn_v, rLuhn_v, panCheck_v, rCheck_v, panCd_v, rCd_v, isPrefix_v, rMake_v, isLet_v, isId_v, isNm_v, isTm_v, rIsId_v, rIsNm_v, rDomain_v, tm]
    refine CallA.keep0 (rrepl_h E rb p len L hE s x.num hnum) s0 (fun v D hh => hh.2.choose_spec.2.2) ?_
    rintro v D ⟨rfl, hh⟩
    intro ν1 fr1
    have fr := fr1
    have nuE := fr.nu
    simp (maxDischargeDepth := 16) only [argE_nil, argE_cons, ↓vmD, vmV, vmStd, Nat.reduceMul, ↓reduceIte, Nat.reduceAdd, Nat.reduceSub, Nat.reduceEqDiff, Nat.reduceLT, Nat.reduceLeDiff, reduceCtorEq, Int.reduceToNat, Int.reduceLT, Int.reduceLE, Int.reduceEq, Int.reduceNeg, Int.reduceBEq, Int.reduceBNe, String.reduceEq, forall_const, ↓vmDA, vmVA, ↓vmQA, vmR, vmRA, ↓vmSA, vmSV, tyS, nuE, SubA.skip, SubA.refl, fr.2, areDigits_v, panSum_v, rdigits_v, rsum_v, panLuhn_v, rLuhn_v, panCheck_v, rCheck_v, panCd_v, rCd_v, isPrefix_v, rMake_v, isLet_v, isId_v, isNm_v, isTm_v, rIsId_v, rIsNm_v, rDomain_v, ansV]
    exact hh

end Go.Proofs.YtoonmogjjddeeaaDoor
