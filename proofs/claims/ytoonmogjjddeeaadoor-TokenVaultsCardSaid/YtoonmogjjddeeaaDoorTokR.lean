/-
Tokens: the walk of the program's Resolve.
Conditions: none.
-/
import Derived.Test.YtoonmogjjddeeaaDoorTokP
namespace Go.Proofs.YtoonmogjjddeeaaDoor
open Go.Vm
set_option linter.unusedSimpArgs false
set_option linter.unusedVariables false
set_option maxHeartbeats 4000000
set_option maxRecDepth 20000
def resE (x : Tok) (req mer : List UInt8) (at_ : Int) : Int :=
  if ¬ x.st = 1 then 8 else if ¬ (req = x.req ∧ (x.mer = [] ∨ mer = x.mer)) then 18 else if ¬ ((0 ≤ at_ ∧ at_ ≤ 1099511627776) ∧ (x.unt = 0 ∨ at_ < x.unt)) then 14 else 0
def resX (x : Tok) (req mer : List UInt8) (at_ : Int) : Value := if resE x req mer at_ = 0 then .tuple #[.string (bs x.pan), .int .i64 0] else .tuple #[.string ⟨#[]⟩, .int .i64 (resE x req mer at_)]
theorem resX_err {x : Tok} {req mer : List UInt8} {at_ k : Int} (h : resE x req mer at_ = k) (hk : k ≠ 0) : resX x req mer at_ = .tuple #[.string ⟨#[]⟩, .int .i64 k] := by
  unfold resX; rw [h, if_neg hk]
theorem vau_at {E : AH} {vb : Nat} {p : List UInt8} {len : Nat} {L : List Tok} (hE : VauP E vb p len L) {i : Nat} {x : Tok} (hx : L[i]? = some x) :
    ∃ (mr g cap cl : Nat) (cur : Array Value) (es : Array MapEntry), E = [(vb, (Obj.cells #[.string (bs p), .int .i64 (len : Int), .slice (some ⟨g, 0, none⟩) L.length cap, .map (some mr)] 63)), (mr, .map es cl), (g, (Obj.cells cur 53))] ∧ MapIs es (mapT 0 L) ∧ OwnL tokC 7 53 (.slice (some ⟨g, 0, none⟩) L.length cap) [(g, (Obj.cells cur 53))] L ∧ vb ≠ mr ∧ vb ≠ g ∧ mr ≠ g ∧ TokOk p len L ∧ i < L.length ∧ rdCS (some (Obj.cells cur 53)) (i * 7) 7 = some (tokC x).toArray ∧ ∀ j u, (tokC x)[j]? = some u → cur[i * 7 + j]? = some u := by
  obtain ⟨mr, v, es, cl, Bk, rfl, hm, ho, h1, h2, h3, h4⟩ := hE
  have hi : i < L.length := (List.getElem?_eq_some_iff.1 hx).1
  have hne : L ≠ [] := by intro h; subst h; simp at hi
  obtain ⟨g, cap, cur, rfl, rfl, h5, h6, h7, h8⟩ := ho.blk hne
  have g1 : g ≠ vb := by intro e; simp [Vm.look, e] at h2
  have g2 : g ≠ mr := by intro e; simp [Vm.look, e] at h3
  obtain ⟨q, c2, hq, _, hs⟩ := ho.read tok_len
  cases hq
  obtain ⟨b, off, cs, ty, fr0, hp0, hbk, hcr, hcc⟩ := hs.at hx
  cases hp0
  simp [Vm.look] at hbk
  obtain ⟨rfl, rfl, rfl⟩ := hbk
  rw [Nat.zero_add] at hcr
  exact ⟨mr, g, cap, cl, cur, es, rfl, hm, ho, h1, fun e => g1 e.symm, fun e => g2 e.symm, h4, hi, hcr, fun j u hu => by have := hcc j u hu; rwa [Nat.zero_add] at this⟩
theorem resN_h (E : AH) (vb : Nat) (p : List UInt8) (len : Nat) (L : List Tok) (hE : VauP E vb p len L) (s req mer : List UInt8) (at_ : Int) (hn : posT s L = none) : CallA Tryd.prog 11 #[.pointer (some ⟨vb, 0, none⟩), .string (bs s), .string (bs req), .string (bs mer), .int .i64 at_] E (fun u_ A_ => u_ = .tuple #[.string ⟨#[]⟩, .int .i64 6] ∧ SubA E A_) := by
  refine callA_of_denA ⟨Tryd.prog, 11, Tryd.f11, 64, [0, 1, 2, 3, 4, 10, 11, 12, 13], [], [], _⟩ (args := [_, _, _, _, _]) Tryd.func11 rfl (by kernel_rfl) Tryd.ntmps11 (by simp) (by kernel_rfl) ?_
  intro ν fr; have nuE := fr.nu
  have fn := findN_v E vb p len L hE s hn
  simp (maxDischargeDepth := 16) only [argE_nil, argE_cons, ↓vmD, vmV, vmStd, Nat.reduceMul, ↓reduceIte, Nat.reduceAdd, Nat.reduceSub, Nat.reduceEqDiff, Nat.reduceLT, Nat.reduceLeDiff, reduceCtorEq, Int.reduceToNat, Int.reduceLT, Int.reduceLE, Int.reduceEq, Int.reduceNeg, Int.reduceBEq, Int.reduceBNe, String.reduceEq, forall_const, ↓vmDA, vmVA, ↓vmQA, vmR, vmRA, ↓vmSA, vmSV, tyS, nuE, SubA.skip, SubA.refl, fr.2, areDigits_v, panSum_v, rdigits_v, rsum_v, panLuhn_v, rLuhn_v, panCheck_v, rCheck_v, panCd_v, rCd_v, isPrefix_v, rMake_v, isLet_v, isId_v, isNm_v, isTm_v, fn]
theorem resN_w (E : AH) (vb : Nat) (p : List UInt8) (len : Nat) (L : List Tok) (hE : VauP E vb p len L) (s req mer : List UInt8) (at_ : Int) (hn : posT s L = none) (B_ : AH) (hB_ : SubA E B_) : valA Tryd.prog 11 #[.pointer (some ⟨vb, 0, none⟩), .string (bs s), .string (bs req), .string (bs mer), .int .i64 at_] B_ = some (.tuple #[.string ⟨#[]⟩, .int .i64 6]) := valA_eq (pureA_at (by kernel_rfl) (resN_h E vb p len L hE s req mer at_ hn) hB_)
theorem resN_v (E : AH) (vb : Nat) (p : List UInt8) (len : Nat) (L : List Tok) (hE : VauP E vb p len L) (s req mer : List UInt8) (at_ : Int) (hn : posT s L = none) : valA Tryd.prog 11 #[.pointer (some ⟨vb, 0, none⟩), .string (bs s), .string (bs req), .string (bs mer), .int .i64 at_] E = some (.tuple #[.string ⟨#[]⟩, .int .i64 6]) := valA_eq (pureA_at (by kernel_rfl) (resN_h E vb p len L hE s req mer at_ hn) (SubA.refl _))
theorem resS_h (E : AH) (vb : Nat) (p : List UInt8) (len : Nat) (L : List Tok) (hE : VauP E vb p len L) (s req mer : List UInt8) (at_ : Int) (i : Nat) (x : Tok) (hi : posT s L = some i) (hx : L[i]? = some x) : CallA Tryd.prog 11 #[.pointer (some ⟨vb, 0, none⟩), .string (bs s), .string (bs req), .string (bs mer), .int .i64 at_] E (fun u_ A_ => u_ = resX x req mer at_ ∧ SubA E A_) := by
  refine callA_of_denA ⟨Tryd.prog, 11, Tryd.f11, 64, [0, 1, 2, 3, 4, 10, 11, 12, 13], [], [], _⟩ (args := [_, _, _, _, _]) Tryd.func11 rfl (by kernel_rfl) Tryd.ntmps11 (by simp) (by kernel_rfl) ?_
  intro ν fr; have nuE := fr.nu
  obtain ⟨mr, g, cap, cl, cur, es, rfl, hm, ho, g1, g2, g3, hok, hlt, hcr, hcc⟩ := vau_at hE hx
  have e1 : ((vb = mr) = False) ∧ ((mr = vb) = False) := ⟨eq_false g1, eq_false fun e => g1 e.symm⟩
  have e2 : ((vb = g) = False) ∧ ((g = vb) = False) := ⟨eq_false g2, eq_false fun e => g2 e.symm⟩
  have e3 : ((mr = g) = False) ∧ ((g = mr) = False) := ⟨eq_false g3, eq_false fun e => g3 e.symm⟩
  have fn := findS_v vb mr g cap cur es cl p len L s i hm g1 hok.2.2.2.2.2.1 hi
  have tmv := fun n A => isTm_v n A
  have c5 := hcc 5 _ rfl
  have c1 := hcc 1 _ rfl
  have hd := rdCS_sub (k := 2) (n := 3) hcr (by decide)
  have hd2 : (List.drop 2 (tokC x)).take 3 = [.string (bs x.req), .string (bs x.mer), .int .i64 x.unt] := rfl
  rw [hd2] at hd
  have nv := fr.ne (b := vb) (by simp (maxDischargeDepth := 16) only [argE_nil, argE_cons, ↓vmD, vmV, vmStd, Nat.reduceMul, ↓reduceIte, Nat.reduceAdd, Nat.reduceSub, Nat.reduceEqDiff, Nat.reduceLT, Nat.reduceLeDiff, reduceCtorEq, Int.reduceToNat, Int.reduceLT, Int.reduceLE, Int.reduceEq, Int.reduceNeg, Int.reduceBEq, Int.reduceBNe, String.reduceEq, forall_const, ↓vmDA, vmVA, ↓vmQA, vmR, vmRA, ↓vmSA, vmSV, tyS, nuE, SubA.skip, SubA.refl, fr.2, areDigits_v, panSum_v, rdigits_v, rsum_v, panLuhn_v, rLuhn_v, panCheck_v, rCheck_v, panCd_v, rCd_v, isPrefix_v, rMake_v, isLet_v, isId_v, isNm_v, isTm_v])
  have nm := fr.ne (b := mr) (by simp (maxDischargeDepth := 16) only [argE_nil, argE_cons, ↓vmD, vmV, vmStd, Nat.reduceMul, ↓reduceIte, Nat.reduceAdd, Nat.reduceSub, Nat.reduceEqDiff, Nat.reduceLT, Nat.reduceLeDiff, reduceCtorEq, Int.reduceToNat, Int.reduceLT, Int.reduceLE, Int.reduceEq, Int.reduceNeg, Int.reduceBEq, Int.reduceBNe, String.reduceEq, forall_const, ↓vmDA, vmVA, ↓vmQA, vmR, vmRA, ↓vmSA, vmSV, tyS, nuE, SubA.skip, SubA.refl, fr.2, areDigits_v, panSum_v, rdigits_v, rsum_v, panLuhn_v, rLuhn_v, panCheck_v, rCheck_v, panCd_v, rCd_v, isPrefix_v, rMake_v, isLet_v, isId_v, isNm_v, isTm_v, e1])
  have ng := fr.ne (b := g) (by simp (maxDischargeDepth := 16) only [argE_nil, argE_cons, ↓vmD, vmV, vmStd, Nat.reduceMul, ↓reduceIte, Nat.reduceAdd, Nat.reduceSub, Nat.reduceEqDiff, Nat.reduceLT, Nat.reduceLeDiff, reduceCtorEq, Int.reduceToNat, Int.reduceLT, Int.reduceLE, Int.reduceEq, Int.reduceNeg, Int.reduceBEq, Int.reduceBNe, String.reduceEq, forall_const, ↓vmDA, vmVA, ↓vmQA, vmR, vmRA, ↓vmSA, vmSV, tyS, nuE, SubA.skip, SubA.refl, fr.2, areDigits_v, panSum_v, rdigits_v, rsum_v, panLuhn_v, rLuhn_v, panCheck_v, rCheck_v, panCd_v, rCd_v, isPrefix_v, rMake_v, isLet_v, isId_v, isNm_v, isTm_v, e2, e3])
  have sE : SubA [(vb, (Obj.cells #[.string (bs p), .int .i64 (len : Int), .slice (some ⟨g, 0, none⟩) L.length cap, .map (some mr)] 63)), (mr, .map es cl), (g, (Obj.cells cur 53))] ((ν 0, (Obj.cells #[.string (bs x.req), .string (bs x.mer), .int .i64 x.unt] 24)) :: [(vb, (Obj.cells #[.string (bs p), .int .i64 (len : Int), .slice (some ⟨g, 0, none⟩) L.length cap, .map (some mr)] 63)), (mr, .map es cl), (g, (Obj.cells cur 53))]) := SubA.fresh (fr.2 0) (SubA.refl _)
  simp (maxDischargeDepth := 16) only [argE_nil, argE_cons, ↓vmD, vmV, vmStd, Nat.reduceMul, ↓reduceIte, Nat.reduceAdd, Nat.reduceSub, Nat.reduceEqDiff, Nat.reduceLT, Nat.reduceLeDiff, reduceCtorEq, Int.reduceToNat, Int.reduceLT, Int.reduceLE, Int.reduceEq, Int.reduceNeg, Int.reduceBEq, Int.reduceBNe, String.reduceEq, forall_const, ↓vmDA, vmVA, ↓vmQA, vmR, vmRA, ↓vmSA, vmSV, tyS, nuE, SubA.skip, SubA.refl, fr.2, areDigits_v, panSum_v, rdigits_v, rsum_v, panLuhn_v, rLuhn_v, panCheck_v, rCheck_v, panCd_v, rCd_v, isPrefix_v, rMake_v, isLet_v, isId_v, isNm_v, isTm_v, fn, e1, e2, e3, c5, c1, hd, tmv, nv, nm, ng]
  simp only [bs_list]
  have a8 : (at_ < x.unt) = ¬ (x.unt ≤ at_) := by simp
  unfold resX resE
  by_cases a1 : x.st = 1
  · by_cases a2 : req = x.req
    · by_cases a3 : x.mer = [] <;> by_cases a4 : mer = x.mer <;> by_cases a5 : (0 ≤ at_ ∧ at_ ≤ 1099511627776) <;> by_cases a6 : x.unt = 0 <;> by_cases a7 : x.unt ≤ at_ <;> simp [a1, a2, a3, a4, a5, a6, a7, a8]
    · simp [a1, a2]
  · simp [a1]
theorem resS_w (E : AH) (vb : Nat) (p : List UInt8) (len : Nat) (L : List Tok) (hE : VauP E vb p len L) (s req mer : List UInt8) (at_ : Int) (i : Nat) (x : Tok) (hi : posT s L = some i) (hx : L[i]? = some x) (B_ : AH) (hB_ : SubA E B_) : valA Tryd.prog 11 #[.pointer (some ⟨vb, 0, none⟩), .string (bs s), .string (bs req), .string (bs mer), .int .i64 at_] B_ = some (resX x req mer at_) := valA_eq (pureA_at (by kernel_rfl) (resS_h E vb p len L hE s req mer at_ i x hi hx) hB_)
theorem resS_v (E : AH) (vb : Nat) (p : List UInt8) (len : Nat) (L : List Tok) (hE : VauP E vb p len L) (s req mer : List UInt8) (at_ : Int) (i : Nat) (x : Tok) (hi : posT s L = some i) (hx : L[i]? = some x) : valA Tryd.prog 11 #[.pointer (some ⟨vb, 0, none⟩), .string (bs s), .string (bs req), .string (bs mer), .int .i64 at_] E = some (resX x req mer at_) := valA_eq (pureA_at (by kernel_rfl) (resS_h E vb p len L hE s req mer at_ i x hi hx) (SubA.refl _))
theorem newP_h (A : AH) (hT : TabA A) (p : List UInt8) (hp : p.length ≤ 10000) (len : Int) : CallA Tryd.prog 7 #[.string (bs p), .int .i64 len] A (fun u_ A_ => (mkO p 0 len = false ∧ u_ = .tuple #[.pointer none, .int .i64 4] ∧ SubA A A_) ∨ (mkO p 0 len = true ∧ ∃ vb E, u_ = .tuple #[.pointer (some ⟨vb, 0, none⟩), .int .i64 0] ∧ VauP E vb p len.toNat [] ∧ Dis E A ∧ SubA (E ++ A) A_)) := by
  refine callA_of_denA ⟨Tryd.prog, 7, Tryd.f7, 22, [0, 1, 4, 5, 7], [], [], _⟩ (args := [_, _]) Tryd.func7 rfl (by kernel_rfl) Tryd.ntmps7 (by simp) (by kernel_rfl) ?_
  intro ν fr; have nuE := fr.nu
  have pm := fun D hD => panMake_w A hT p hp 0 len (by omega) (by omega) D hD
  have pm0 := pm A (SubA.refl _)
  cases hO : mkO p 0 len with
  | false =>
    have pv : mkV p 0 len = .tuple #[.string (bs []), .int .i64 4] := by unfold mkV; rw [if_neg (by rw [hO]; simp)]
    rw [pv] at pm0
    simp (maxDischargeDepth := 16) only [argE_nil, argE_cons, ↓vmD, vmV, vmStd, Nat.reduceMul, ↓reduceIte, Nat.reduceAdd, Nat.reduceSub, Nat.reduceEqDiff, Nat.reduceLT, Nat.reduceLeDiff, reduceCtorEq, Int.reduceToNat, Int.reduceLT, Int.reduceLE, Int.reduceEq, Int.reduceNeg, Int.reduceBEq, Int.reduceBNe, String.reduceEq, forall_const, ↓vmDA, vmVA, ↓vmQA, vmR, vmRA, ↓vmSA, vmSV, tyS, nuE, SubA.skip, SubA.refl, fr.2, areDigits_v, panSum_v, rdigits_v, rsum_v, panLuhn_v, rLuhn_v, panCheck_v, rCheck_v, panCd_v, rCd_v, isPrefix_v, rMake_v, isLet_v, isId_v, isNm_v, isTm_v, pm0]
  | true =>
    have pv : mkV p 0 len = .tuple #[.string (bs (mkL p (len.toNat - 1 - p.length) 0)), .int .i64 0] := by unfold mkV; rw [if_pos hO]; rfl
    rw [pv] at pm0
    have f0 := fr.2 0
    have f1 := fr.2 1
    simp (maxDischargeDepth := 16) only [argE_nil, argE_cons, ↓vmD, vmV, vmStd, Nat.reduceMul, ↓reduceIte, Nat.reduceAdd, Nat.reduceSub, Nat.reduceEqDiff, Nat.reduceLT, Nat.reduceLeDiff, reduceCtorEq, Int.reduceToNat, Int.reduceLT, Int.reduceLE, Int.reduceEq, Int.reduceNeg, Int.reduceBEq, Int.reduceBNe, String.reduceEq, forall_const, ↓vmDA, vmVA, ↓vmQA, vmR, vmRA, ↓vmSA, vmSV, tyS, nuE, SubA.skip, SubA.refl, fr.2, areDigits_v, panSum_v, rdigits_v, rsum_v, panLuhn_v, rLuhn_v, panCheck_v, rCheck_v, panCd_v, rCd_v, isPrefix_v, rMake_v, isLet_v, isId_v, isNm_v, isTm_v, pm0]
    obtain ⟨a, b, _, rfl, q1, q2, q3, q4, q5, _⟩ := mkO_out hO
    refine ⟨ν 1, [(ν 1, Obj.cells #[.string (bs p), .int .i64 (b : Int), .slice none 0 0, .map (some (ν 0))] 63), (ν 0, .map #[] 0)], rfl, ?_, (show Dis ([_] ++ [_]) A from (Dis.one f1).app (Dis.one f0)), SubA.refl _⟩
    rw [Int.toNat_natCast]
    exact ⟨ν 0, .slice none 0 0, #[], 0, [], rfl, MapIs.nil, OwnL.nil _ _ _, by simp [nuE], rfl, rfl, q1, q2, q3, q4, q5, by simp, fun i x hx => by simp at hx⟩

end Go.Proofs.YtoonmogjjddeeaaDoor
