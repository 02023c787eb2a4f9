/-
Tokens: what calls answer; the walks of the reference's vault.
Conditions: none.
-/
import Derived.Test.YtoonmogjjddeeaaDoorTokF
import Derived.Lib.IndexAny
namespace Go.Proofs.YtoonmogjjddeeaaDoor
open Go.Vm
set_option linter.unusedSimpArgs false
set_option linter.unusedVariables false
set_option maxHeartbeats 2000000
set_option maxRecDepth 20000
theorem dash_iff (l : List UInt8) : decide (0 ≤ Lib.indexByte l 45) = l.contains 45 := (Lib.contains_iff_indexByte l 45).symm
def ansV (e : Int) : Value := .tuple #[.string ⟨#[]⟩, .int .i64 e]
/-- What a call of the given kind with a token answers: the result, and the tokens afterwards. -/
def doX (p : List UInt8) (len : Nat) (L : List Tok) (k : Nat) (num s req mer dq dm : List UInt8) (unt at_ : Int) : Value × List Tok :=
  if k = 0 then (provV p len L num dq dm unt at_, provL p len L num dq dm unt at_) else
  match posT s L with
  | none => (ansV 6, L)
  | some i => match L[i]? with
    | none => (ansV 6, L)
    | some x =>
      if k = 1 then (resX x req mer at_, L)
      else if k = 2 then (if x.st = 1 then (ansV 0, L.set i { x with st := 2 }) else (ansV 8, L))
      else if k = 3 then (if x.st = 2 then (ansV 0, L.set i { x with st := 1 }) else (ansV 8, L))
      else if k = 4 then (if x.st = 1 ∨ x.st = 2 then (ansV 0, L.set i { x with st := 3 }) else (ansV 8, L))
      else if x.st = 3 then (ansV 8, L) else if chk num ≠ 0 then (ansV (chk num), L) else if isV p len num = true then (ansV 4, L) else (ansV 0, L.set i { x with pan := num })
def getV (L : List Tok) (s : List UInt8) : Value := match posT s L with
  | none => .tuple #[.agg #[.string ⟨#[]⟩, .string ⟨#[]⟩, .string ⟨#[]⟩, .string ⟨#[]⟩, .int .i64 0, .int .i64 0, .int .i64 0], .bool false]
  | some i => match L[i]? with
    | none => .tuple #[.agg #[.string ⟨#[]⟩, .string ⟨#[]⟩, .string ⟨#[]⟩, .string ⟨#[]⟩, .int .i64 0, .int .i64 0, .int .i64 0], .bool false]
    | some x => .tuple #[.agg (tokC x).toArray, .bool true]
def ofL (L : List Tok) (num : List UInt8) : List (List UInt8) := (L.filter fun x => decide (x.pan = num) && !decide (x.st = 3)).map Tok.tok
/-- A vault of the reference. -/
def VauR (E : AH) (rb : Nat) (p : List UInt8) (len : Nat) (L : List Tok) : Prop := ∃ (v : Value) (Bk : AH),
  E = (rb, (Obj.cells #[.string (bs p), .int .i64 (len : Int), v] 51)) :: Bk ∧ OwnL tokC 7 53 v Bk L ∧ Vm.look Bk rb = none ∧ TokOk p len L
theorem posT_lt {s : List UInt8} {L : List Tok} {i : Nat} (h : posT s L = some i) : ∃ x, L[i]? = some x ∧ x.tok = s ∧ i < L.length := by
  obtain ⟨x, hx, ht⟩ := posT_some h
  exact ⟨x, hx, ht, (List.getElem?_eq_some_iff.1 hx).1⟩
set_option linter.unusedSimpArgs false
set_option linter.unusedVariables false
set_option maxHeartbeats 2000000
set_option maxRecDepth 20000
theorem u8_beq (c : UInt8) (n : Nat) : ((c.toNat : Int) == (n : Int)) = decide (c.toNat = n) := by
  by_cases h : c.toNat = n
  · rw [h]; simp
  · simp [h]; omega
theorem rIsId_h (l : List UInt8) (hl : l.length ≤ 1000000) : CallA Tryd.prog 67 #[.string (bs l)] [] (fun u_ _ => u_ = .bool (idB l)) := by
  refine callA_of_denA ⟨Tryd.prog, 67, Tryd.f67, 53, [0, 2, 3, 4], [], [], _⟩ (args := [_]) Tryd.func67 rfl (by kernel_rfl) Tryd.ntmps67 (by simp) (by kernel_rfl) ?_
  intro ν fr; have nuE := fr.nu
  simp (maxDischargeDepth := 16) only [argE_nil, argE_cons, ↓vmD, vmV, vmStd, Nat.reduceMul, ↓reduceIte, Nat.reduceAdd, Nat.reduceSub, Nat.reduceEqDiff, Nat.reduceLT, Nat.reduceLeDiff, reduceCtorEq, Int.reduceToNat, Int.reduceLT, Int.reduceLE, Int.reduceEq, Int.reduceNeg, Int.reduceBEq, Int.reduceBNe, String.reduceEq, forall_const, ↓vmDA, vmVA, ↓vmQA, vmR, vmRA, ↓vmSA, vmSV, tyS, nuE, areDigits_v, panSum_v, rdigits_v, rsum_v, panLuhn_v, rLuhn_v, panCheck_v, rCheck_v, panCd_v, rCd_v, isPrefix_v, rMake_v, isLet_v, isId_v, isNm_v, isTm_v, bs_size]
  obtain ⟨e, k, dn, he, ha, h3, hd⟩ : ∃ (e : Nat) (k dn : List UInt8), e = 0 ∧ l = dn ++ k ∧ dn.length = e ∧ dn.all (fun c => idN c.toNat) = true := ⟨0, l, [], rfl, rfl, rfl, rfl⟩
  rw [show (3, some (Value.int .i64 0)) = (3, some (Value.int .i64 (e : Int))) by rw [he]; rfl]
  clear he nuE fr
  induction k generalizing e dn with
  | nil =>
    obtain ⟨lt, hd2, hle, dc⟩ := at_nil ha h3
    rw [hd2] at hd
    refine LoopA.intro (by kernel_rfl) ?_
    intro ν fr; have nuE := fr.nu
    have q : ((l.length : Int) ≤ 16) = (l.length ≤ 16) := propext ⟨fun h => by omega, fun h => by omega⟩
    have q1 : ((1 : Int) ≤ (l.length : Int)) = (1 ≤ l.length) := propext ⟨fun h => by omega, fun h => by omega⟩
    by_cases h1 : 1 ≤ l.length
    · simp (maxDischargeDepth := 16) only [argE_nil, argE_cons, ↓vmD, vmV, vmStd, Nat.reduceMul, ↓reduceIte, Nat.reduceAdd, Nat.reduceSub, Nat.reduceEqDiff, Nat.reduceLT, Nat.reduceLeDiff, reduceCtorEq, Int.reduceToNat, Int.reduceLT, Int.reduceLE, Int.reduceEq, Int.reduceNeg, Int.reduceBEq, Int.reduceBNe, String.reduceEq, forall_const, ↓vmDA, vmVA, ↓vmQA, vmR, vmRA, ↓vmSA, vmSV, tyS, nuE, areDigits_v, panSum_v, rdigits_v, rsum_v, panLuhn_v, rLuhn_v, panCheck_v, rCheck_v, panCd_v, rCd_v, isPrefix_v, rMake_v, isLet_v, isId_v, isNm_v, isTm_v, lt, bs_size, q, q1, idB, hd, h1]
    · simp (maxDischargeDepth := 16) only [argE_nil, argE_cons, ↓vmD, vmV, vmStd, Nat.reduceMul, ↓reduceIte, Nat.reduceAdd, Nat.reduceSub, Nat.reduceEqDiff, Nat.reduceLT, Nat.reduceLeDiff, reduceCtorEq, Int.reduceToNat, Int.reduceLT, Int.reduceLE, Int.reduceEq, Int.reduceNeg, Int.reduceBEq, Int.reduceBNe, String.reduceEq, forall_const, ↓vmDA, vmVA, ↓vmQA, vmR, vmRA, ↓vmSA, vmSV, tyS, nuE, areDigits_v, panSum_v, rdigits_v, rsum_v, panLuhn_v, rLuhn_v, panCheck_v, rCheck_v, panCd_v, rCd_v, isPrefix_v, rMake_v, isLet_v, isId_v, isNm_v, isTm_v, lt, bs_size, q, q1, idB, hd, h1]
  | cons c k ih =>
    obtain ⟨lt, we, hc, hle, dc, ha', h3', hlen⟩ := at_cons ha h3 (by omega)
    have e1 : ((97 : Int) ≤ (c.toNat : Int)) = (97 ≤ c.toNat) := by simp; omega
    have e2 : ((c.toNat : Int) ≤ 122) = (c.toNat ≤ 122) := by simp; omega
    have e3 : ((65 : Int) ≤ (c.toNat : Int)) = (65 ≤ c.toNat) := by simp; omega
    have e4 : ((c.toNat : Int) ≤ 90) = (c.toNat ≤ 90) := by simp; omega
    have c1 : ((48 : Int) ≤ (c.toNat : Int)) = (48 ≤ c.toNat) := by simp; omega
    have c2 : ((c.toNat : Int) ≤ 57) = (c.toNat ≤ 57) := by simp; omega
    have n1 : ((c.toNat : Int) == 95) = decide (c.toNat = 95) := u8_beq c 95
    have n2 : ((c.toNat : Int) == 45) = decide (c.toNat = 45) := u8_beq c 45
    refine LoopA.intro (by kernel_rfl) ?_
    intro ν fr; have nuE := fr.nu
    cases hb : idN c.toNat with
    | true =>
      have ih' := ih (e + 1) (dn ++ [c]) ha' h3' (by simp [hd, hb])
      simp only [idN, letN, Bool.or_eq_true, Bool.and_eq_true, decide_eq_true_eq] at hb
      simp (maxDischargeDepth := 16) only [argE_nil, argE_cons, ↓vmD, vmV, vmStd, Nat.reduceMul, ↓reduceIte, Nat.reduceAdd, Nat.reduceSub, Nat.reduceEqDiff, Nat.reduceLT, Nat.reduceLeDiff, reduceCtorEq, Int.reduceToNat, Int.reduceLT, Int.reduceLE, Int.reduceEq, Int.reduceNeg, Int.reduceBEq, Int.reduceBNe, String.reduceEq, forall_const, ↓vmDA, vmVA, ↓vmQA, vmR, vmRA, ↓vmSA, vmSV, tyS, nuE, areDigits_v, panSum_v, rdigits_v, rsum_v, panLuhn_v, rLuhn_v, panCheck_v, rCheck_v, panCd_v, rCd_v, isPrefix_v, rMake_v, isLet_v, isId_v, isNm_v, isTm_v, lt, bs_size, bs_at, hc, e1, e2, e3, e4, c1, c2, n1, n2, we]
      rw [if_neg (by intro h; simp only [Bool.or_eq_false_iff, Bool.and_eq_false_iff, decide_eq_false_iff_not] at h; omega)]
      exact LoopA.weak ih' (by simp only [subE, get_cons, Nat.reduceEqDiff, ↓reduceIte, reduceCtorEq, Nat.reduceAdd, and_self, and_true]) (SubA.refl _)
    | false =>
      have hv : idB l = false := by unfold idB; rw [ha]; simp [hb]
      simp only [idN, letN, Bool.or_eq_false_iff, Bool.and_eq_false_iff, decide_eq_false_iff_not] at hb
      simp (maxDischargeDepth := 16) only [argE_nil, argE_cons, ↓vmD, vmV, vmStd, Nat.reduceMul, ↓reduceIte, Nat.reduceAdd, Nat.reduceSub, Nat.reduceEqDiff, Nat.reduceLT, Nat.reduceLeDiff, reduceCtorEq, Int.reduceToNat, Int.reduceLT, Int.reduceLE, Int.reduceEq, Int.reduceNeg, Int.reduceBEq, Int.reduceBNe, String.reduceEq, forall_const, ↓vmDA, vmVA, ↓vmQA, vmR, vmRA, ↓vmSA, vmSV, tyS, nuE, areDigits_v, panSum_v, rdigits_v, rsum_v, panLuhn_v, rLuhn_v, panCheck_v, rCheck_v, panCd_v, rCd_v, isPrefix_v, rMake_v, isLet_v, isId_v, isNm_v, isTm_v, lt, bs_size, bs_at, hc, e1, e2, e3, e4, c1, c2, n1, n2, we, hv]
      rw [if_pos (by simp only [Bool.or_eq_false_iff, Bool.and_eq_false_iff, decide_eq_false_iff_not]; omega)]
      trivial
theorem rIsId_v (l : List UInt8) (hl : l.length ≤ 1000000) (A_ : AH) : valA Tryd.prog 67 #[.string (bs l)] A_ = some (.bool (idB l)) := valA_eq (pureA_of (by kernel_rfl) (rIsId_h l hl))
theorem rIsNm_h (l : List UInt8) (hl : l.length ≤ 1000000) : CallA Tryd.prog 66 #[.string (bs l)] [] (fun u_ _ => u_ = .bool (nmB l)) := by
  refine callA_of_denA ⟨Tryd.prog, 66, Tryd.f66, 38, [0, 2, 3], [], [], _⟩ (args := [_]) Tryd.func66 rfl (by kernel_rfl) Tryd.ntmps66 (by simp) (by kernel_rfl) ?_
  intro ν fr; have nuE := fr.nu
  have iv := fun A => rIsId_v l hl A
  cases hi : idB l with
  | false => simp (maxDischargeDepth := 16) only [argE_nil, argE_cons, ↓vmD, vmV, vmStd, Nat.reduceMul, ↓reduceIte, Nat.reduceAdd, Nat.reduceSub, Nat.reduceEqDiff, Nat.reduceLT, Nat.reduceLeDiff, reduceCtorEq, Int.reduceToNat, Int.reduceLT, Int.reduceLE, Int.reduceEq, Int.reduceNeg, Int.reduceBEq, Int.reduceBNe, String.reduceEq, forall_const, ↓vmDA, vmVA, ↓vmQA, vmR, vmRA, ↓vmSA, vmSV, tyS, nuE, areDigits_v, panSum_v, rdigits_v, rsum_v, panLuhn_v, rLuhn_v, panCheck_v, rCheck_v, panCd_v, rCd_v, isPrefix_v, rMake_v, isLet_v, isId_v, isNm_v, isTm_v, rIsId_v, iv, hi, nmB, Bool.false_and]
  | true =>
    cases l with
    | nil => simp [idB] at hi
    | cons c0 l0 =>
      have hc0 : (c0 :: l0)[0]? = some c0 := rfl
      have e1 : ((97 : Int) ≤ (c0.toNat : Int)) = (97 ≤ c0.toNat) := by simp; omega
      have e2 : ((c0.toNat : Int) ≤ 122) = (c0.toNat ≤ 122) := by simp; omega
      have e3 : ((65 : Int) ≤ (c0.toNat : Int)) = (65 ≤ c0.toNat) := by simp; omega
      have e4 : ((c0.toNat : Int) ≤ 90) = (c0.toNat ≤ 90) := by simp; omega
      have hv0 : letN c0.toNat = false → nmB (c0 :: l0) = false := fun h => by unfold nmB; rw [hi]; simp [h]
      cases hb : letN c0.toNat with
      | false =>
        have hv := hv0 hb
        simp only [letN, Bool.or_eq_false_iff, Bool.and_eq_false_iff, decide_eq_false_iff_not] at hb
        simp (maxDischargeDepth := 16) only [argE_nil, argE_cons, ↓vmD, vmV, vmStd, Nat.reduceMul, ↓reduceIte, Nat.reduceAdd, Nat.reduceSub, Nat.reduceEqDiff, Nat.reduceLT, Nat.reduceLeDiff, reduceCtorEq, Int.reduceToNat, Int.reduceLT, Int.reduceLE, Int.reduceEq, Int.reduceNeg, Int.reduceBEq, Int.reduceBNe, String.reduceEq, forall_const, ↓vmDA, vmVA, ↓vmQA, vmR, vmRA, ↓vmSA, vmSV, tyS, nuE, areDigits_v, panSum_v, rdigits_v, rsum_v, panLuhn_v, rLuhn_v, panCheck_v, rCheck_v, panCd_v, rCd_v, isPrefix_v, rMake_v, isLet_v, isId_v, isNm_v, isTm_v, rIsId_v, iv, hi, bs_at, hc0, e1, e2, e3, e4, hv]
        (repeat' split) <;> first | trivial | (exfalso; omega)
      | true =>
        have hN : nmB (c0 :: l0) = !(c0 :: l0).contains 45 := by
          unfold nmB; rw [hi, dash_iff]; simp [hb]
        simp only [letN, Bool.or_eq_true, Bool.and_eq_true, decide_eq_true_eq] at hb
        simp (maxDischargeDepth := 16) only [argE_nil, argE_cons, ↓vmD, vmV, vmStd, Nat.reduceMul, ↓reduceIte, Nat.reduceAdd, Nat.reduceSub, Nat.reduceEqDiff, Nat.reduceLT, Nat.reduceLeDiff, reduceCtorEq, Int.reduceToNat, Int.reduceLT, Int.reduceLE, Int.reduceEq, Int.reduceNeg, Int.reduceBEq, Int.reduceBNe, String.reduceEq, forall_const, ↓vmDA, vmVA, ↓vmQA, vmR, vmRA, ↓vmSA, vmSV, tyS, nuE, areDigits_v, panSum_v, rdigits_v, rsum_v, panLuhn_v, rLuhn_v, panCheck_v, rCheck_v, panCd_v, rCd_v, isPrefix_v, rMake_v, isLet_v, isId_v, isNm_v, isTm_v, rIsId_v, iv, hi, bs_at, hc0, e1, e2, e3, e4]
        suffices hq : LoopA [(0, some (Value.string (bs (c0 :: l0)))), (2, some (Value.bool false)), (3, some (Value.int IntKind.i64 0))] [] () by
          (repeat' split) <;> first | exact hq | (exfalso; omega)
        obtain ⟨l, hcl⟩ : ∃ l, l = c0 :: l0 := ⟨_, rfl⟩
        rw [← hcl] at hN hl ⊢
        clear e1 e2 e3 e4 hb hv0 hc0 iv hi hcl
        obtain ⟨e, k, dn, he, ha, h3, hd⟩ : ∃ (e : Nat) (k dn : List UInt8), e = 0 ∧ l = dn ++ k ∧ dn.length = e ∧ dn.contains 45 = false := ⟨0, l, [], rfl, rfl, rfl, rfl⟩
        rw [show (3, some (Value.int .i64 0)) = (3, some (Value.int .i64 (e : Int))) by rw [he]; rfl]
        clear he nuE fr
        induction k generalizing e dn with
        | nil =>
          obtain ⟨lt, hd2, hle, dc⟩ := at_nil ha h3
          rw [hd2] at hd
          refine LoopA.intro (by kernel_rfl) ?_
          intro ν fr; have nuE := fr.nu
          simp (maxDischargeDepth := 16) only [argE_nil, argE_cons, ↓vmD, vmV, vmStd, Nat.reduceMul, ↓reduceIte, Nat.reduceAdd, Nat.reduceSub, Nat.reduceEqDiff, Nat.reduceLT, Nat.reduceLeDiff, reduceCtorEq, Int.reduceToNat, Int.reduceLT, Int.reduceLE, Int.reduceEq, Int.reduceNeg, Int.reduceBEq, Int.reduceBNe, String.reduceEq, forall_const, ↓vmDA, vmVA, ↓vmQA, vmR, vmRA, ↓vmSA, vmSV, tyS, nuE, areDigits_v, panSum_v, rdigits_v, rsum_v, panLuhn_v, rLuhn_v, panCheck_v, rCheck_v, panCd_v, rCd_v, isPrefix_v, rMake_v, isLet_v, isId_v, isNm_v, isTm_v, rIsId_v, lt, bs_size, hN, hd]
        | cons c k ih =>
          obtain ⟨lt, we, hc, hle, dc, ha', h3', hlen⟩ := at_cons ha h3 (by omega)
          have n2 : ((c.toNat : Int) == 45) = decide (c.toNat = 45) := u8_beq c 45
          refine LoopA.intro (by kernel_rfl) ?_
          intro ν fr; have nuE := fr.nu
          by_cases h45 : c.toNat = 45
          · have hc45 : c = 45 := UInt8.toNat_inj.1 (by rw [h45]; rfl)
            have hin : l.contains 45 = true := by rw [ha, hc45]; simp
            simp (maxDischargeDepth := 16) only [argE_nil, argE_cons, ↓vmD, vmV, vmStd, Nat.reduceMul, ↓reduceIte, Nat.reduceAdd, Nat.reduceSub, Nat.reduceEqDiff, Nat.reduceLT, Nat.reduceLeDiff, reduceCtorEq, Int.reduceToNat, Int.reduceLT, Int.reduceLE, Int.reduceEq, Int.reduceNeg, Int.reduceBEq, Int.reduceBNe, String.reduceEq, forall_const, ↓vmDA, vmVA, ↓vmQA, vmR, vmRA, ↓vmSA, vmSV, tyS, nuE, areDigits_v, panSum_v, rdigits_v, rsum_v, panLuhn_v, rLuhn_v, panCheck_v, rCheck_v, panCd_v, rCd_v, isPrefix_v, rMake_v, isLet_v, isId_v, isNm_v, isTm_v, rIsId_v, lt, bs_size, bs_at, hc, n2, h45, hN, hin]
          · have hc45 : ¬ c = 45 := fun e => h45 (by rw [e]; rfl)
            have hc45' : ¬ 45 = c := fun e => hc45 e.symm
            simp (maxDischargeDepth := 16) only [argE_nil, argE_cons, ↓vmD, vmV, vmStd, Nat.reduceMul, ↓reduceIte, Nat.reduceAdd, Nat.reduceSub, Nat.reduceEqDiff, Nat.reduceLT, Nat.reduceLeDiff, reduceCtorEq, Int.reduceToNat, Int.reduceLT, Int.reduceLE, Int.reduceEq, Int.reduceNeg, Int.reduceBEq, Int.reduceBNe, String.reduceEq, forall_const, ↓vmDA, vmVA, ↓vmQA, vmR, vmRA, ↓vmSA, vmSV, tyS, nuE, areDigits_v, panSum_v, rdigits_v, rsum_v, panLuhn_v, rLuhn_v, panCheck_v, rCheck_v, panCd_v, rCd_v, isPrefix_v, rMake_v, isLet_v, isId_v, isNm_v, isTm_v, rIsId_v, lt, bs_size, bs_at, hc, n2, h45, we]
            exact LoopA.weak (ih (e + 1) (dn ++ [c]) ha' h3' (by
              simp only [List.contains_eq_mem, List.mem_append, List.mem_singleton, decide_eq_false_iff_not, not_or] at hd ⊢
              exact ⟨hd, hc45'⟩)) (by simp only [subE, get_cons, Nat.reduceEqDiff, ↓reduceIte, reduceCtorEq, Nat.reduceAdd, and_self, and_true]) (SubA.refl _)
theorem rIsNm_v (l : List UInt8) (hl : l.length ≤ 1000000) (A_ : AH) : valA Tryd.prog 66 #[.string (bs l)] A_ = some (.bool (nmB l)) := valA_eq (pureA_of (by kernel_rfl) (rIsNm_h l hl))
theorem domB_eq (req mer : List UInt8) : domN req mer = (nmB req && (decide (mer = []) || idB mer)) := rfl
/-- The error of a domain. -/
def domE (req mer : List UInt8) (unt at_ : Int) : Int := if domN req mer = false then 5 else if domT unt at_ = false then 14 else 0
theorem rDomain_h (req mer : List UInt8) (unt at_ : Int) (hreq : req.length ≤ 1000000) (hmer : mer.length ≤ 1000000) : CallA Tryd.prog 55 #[.agg #[.string (bs req), .string (bs mer), .int .i64 unt], .int .i64 at_] [] (fun u_ _ => u_ = .int .i64 (domE req mer unt at_)) := by
  refine callA_of_denA ⟨Tryd.prog, 55, Tryd.f55, 42, [0, 1, 2, 4], [], [], _⟩ (args := [_, _]) Tryd.func55 rfl (by kernel_rfl) Tryd.ntmps55 (by simp) (by kernel_rfl) ?_
  intro ν fr; have nuE := fr.nu
  have nv := fun A => rIsNm_v req hreq A
  have iv := fun A => rIsId_v mer hmer A
  cases hn : nmB req with
  | false =>
    have e : domE req mer unt at_ = 5 := by unfold domE; rw [if_pos (by unfold domN; rw [hn]; rfl)]
    simp (maxDischargeDepth := 16) only [argE_nil, argE_cons, ↓vmD, vmV, vmStd, Nat.reduceMul, ↓reduceIte, Nat.reduceAdd, Nat.reduceSub, Nat.reduceEqDiff, Nat.reduceLT, Nat.reduceLeDiff, reduceCtorEq, Int.reduceToNat, Int.reduceLT, Int.reduceLE, Int.reduceEq, Int.reduceNeg, Int.reduceBEq, Int.reduceBNe, String.reduceEq, forall_const, ↓vmDA, vmVA, ↓vmQA, vmR, vmRA, ↓vmSA, vmSV, tyS, nuE, SubA.skip, SubA.refl, fr.2, areDigits_v, panSum_v, rdigits_v, rsum_v, panLuhn_v, rLuhn_v, panCheck_v, rCheck_v, panCd_v, rCd_v, isPrefix_v, rMake_v, isLet_v, isId_v, isNm_v, isTm_v, rIsId_v, rIsNm_v, nv, hn, e]
  | true =>
  have mq : mer.isEmpty = decide (mer = []) := by cases mer <;> simp
  rcases (show (mer.isEmpty = false ∧ idB mer = false) ∨ (mer.isEmpty = true ∧ True) ∨ (mer.isEmpty = false ∧ idB mer = true) by cases mer.isEmpty <;> cases idB mer <;> simp) with ⟨hme, hid⟩ | ⟨hme, hid⟩ | ⟨hme, hid⟩
  · have e : domE req mer unt at_ = 5 := by unfold domE; rw [if_pos (by unfold domN; rw [hn, ← mq, hme, hid]; rfl)]
    simp (maxDischargeDepth := 16) only [argE_nil, argE_cons, ↓vmD, vmV, vmStd, Nat.reduceMul, ↓reduceIte, Nat.reduceAdd, Nat.reduceSub, Nat.reduceEqDiff, Nat.reduceLT, Nat.reduceLeDiff, reduceCtorEq, Int.reduceToNat, Int.reduceLT, Int.reduceLE, Int.reduceEq, Int.reduceNeg, Int.reduceBEq, Int.reduceBNe, String.reduceEq, forall_const, ↓vmDA, vmVA, ↓vmQA, vmR, vmRA, ↓vmSA, vmSV, tyS, nuE, SubA.skip, SubA.refl, fr.2, areDigits_v, panSum_v, rdigits_v, rsum_v, panLuhn_v, rLuhn_v, panCheck_v, rCheck_v, panCd_v, rCd_v, isPrefix_v, rMake_v, isLet_v, isId_v, isNm_v, isTm_v, rIsId_v, rIsNm_v, nv, hn, bs_ne, hme, iv, hid, e]
  all_goals (
    have hD : domN req mer = true := by unfold domN; rw [hn, ← mq, hme]; simp [hid]
    have e : domE req mer unt at_ = if domT unt at_ = false then 14 else 0 := by unfold domE; rw [if_neg (by rw [hD]; simp)]
    simp (maxDischargeDepth := 16) only [argE_nil, argE_cons, ↓vmD, vmV, vmStd, Nat.reduceMul, ↓reduceIte, Nat.reduceAdd, Nat.reduceSub, Nat.reduceEqDiff, Nat.reduceLT, Nat.reduceLeDiff, reduceCtorEq, Int.reduceToNat, Int.reduceLT, Int.reduceLE, Int.reduceEq, Int.reduceNeg, Int.reduceBEq, Int.reduceBNe, String.reduceEq, forall_const, ↓vmDA, vmVA, ↓vmQA, vmR, vmRA, ↓vmSA, vmSV, tyS, nuE, SubA.skip, SubA.refl, fr.2, areDigits_v, panSum_v, rdigits_v, rsum_v, panLuhn_v, rLuhn_v, panCheck_v, rCheck_v, panCd_v, rCd_v, isPrefix_v, rMake_v, isLet_v, isId_v, isNm_v, isTm_v, rIsId_v, rIsNm_v, nv, hn, bs_ne, hme, iv, hid, e]
    unfold domT
    by_cases a1 : 0 ≤ at_ <;> by_cases a2 : at_ ≤ 1099511627776 <;> by_cases a3 : unt = 0 <;> by_cases a4 : at_ < unt <;> by_cases a5 : unt ≤ 1099511627776 <;> simp [a1, a2, a3, a4, a5] <;> omega)
theorem rDomain_v (req mer : List UInt8) (unt at_ : Int) (hreq : req.length ≤ 1000000) (hmer : mer.length ≤ 1000000) (A_ : AH) : valA Tryd.prog 55 #[.agg #[.string (bs req), .string (bs mer), .int .i64 unt], .int .i64 at_] A_ = some (.int .i64 (domE req mer unt at_)) := valA_eq (pureA_of (by kernel_rfl) (rDomain_h req mer unt at_ hreq hmer))
set_option linter.unusedSimpArgs false
set_option linter.unusedVariables false
set_option maxHeartbeats 4000000
set_option maxRecDepth 20000
theorem VauR.out {E : AH} {rb : Nat} {p : List UInt8} {len : Nat} {L : List Tok} (hE : VauR E rb p len L) : ∃ (q : Option Addr) (cap : Nat), Vm.look E rb = some (Obj.cells #[.string (bs p), .int .i64 (len : Int), .slice q L.length cap] 51) ∧ StR tokC 7 E q L ∧ TokOk p len L := by
  obtain ⟨v, Bk, rfl, ho, h2, h4⟩ := hE
  obtain ⟨q, cap, rfl, hcap, hs⟩ := ho.read tok_len
  exact ⟨q, cap, by simp [Vm.look], hs.mono (SubA.skip h2 (SubA.refl _)), h4⟩
theorem vaur_at {E : AH} {rb : Nat} {p : List UInt8} {len : Nat} {L : List Tok} (hE : VauR E rb p len L) {i : Nat} {x : Tok} (hx : L[i]? = some x) :
    ∃ (g cap : Nat) (cur : Array Value), E = [(rb, (Obj.cells #[.string (bs p), .int .i64 (len : Int), .slice (some ⟨g, 0, none⟩) L.length cap] 51)), (g, (Obj.cells cur 53))] ∧ OwnL tokC 7 53 (.slice (some ⟨g, 0, none⟩) L.length cap) [(g, (Obj.cells cur 53))] L ∧ rb ≠ g ∧ TokOk p len L ∧ i < L.length ∧ rdCS (some (Obj.cells cur 53)) (i * 7) 7 = some (tokC x).toArray ∧ ∀ j u, (tokC x)[j]? = some u → cur[i * 7 + j]? = some u := by
  obtain ⟨v, Bk, rfl, ho, h2, h4⟩ := hE
  have hi : i < L.length := (List.getElem?_eq_some_iff.1 hx).1
  have hne : L ≠ [] := by intro h; subst h; simp at hi
  obtain ⟨g, cap, cur, rfl, rfl, h5, h6, h7, h8⟩ := ho.blk hne
  have g1 : g ≠ rb := by intro e; simp [Vm.look, e] at h2
  obtain ⟨q, c2, hq, _, hs⟩ := ho.read tok_len
  cases hq
  obtain ⟨b, off, cs, ty, fr0, hp0, hbk, hcr, hcc⟩ := hs.at hx
  cases hp0
  simp [Vm.look] at hbk
  obtain ⟨rfl, rfl, rfl⟩ := hbk
  rw [Nat.zero_add] at hcr
  exact ⟨g, cap, cur, rfl, ho, fun e => g1 e.symm, h4, hi, hcr, fun j u hu => by have := hcc j u hu; rwa [Nat.zero_add] at this⟩
theorem posT_skip {s : List UInt8} {L : List Tok} {e : Nat} {x : Tok} (hx : L[e]? = some x) (h : ∀ y ∈ L.take e, y.tok ≠ s) (hn : x.tok ≠ s) : ∀ y ∈ L.take (e + 1), y.tok ≠ s := by
  intro y hy
  rw [List.take_add_one, hx] at hy
  rcases List.mem_append.1 hy with h1 | h1
  · exact h y h1
  · simp at h1; rw [h1]; exact hn
theorem rfind_h (E : AH) (rb : Nat) (p : List UInt8) (len : Nat) (L : List Tok) (hE : VauR E rb p len L) (s : List UInt8) : CallA Tryd.prog 43 #[.pointer (some ⟨rb, 0, none⟩), .string (bs s)] E (fun u_ A_ => u_ = .int .i64 (match posT s L with | some i => (i : Int) | none => -1) ∧ SubA E A_) := by
  refine callA_of_denA ⟨Tryd.prog, 43, Tryd.f43, 30, [0, 1, 4, 5], [], [], _⟩ (args := [_, _]) Tryd.func43 rfl (by kernel_rfl) Tryd.ntmps43 (by simp) (by kernel_rfl) ?_
  intro ν fr; have nuE := fr.nu
  obtain ⟨q, cap, lr, hs, hok⟩ := hE.out
  have h64 := hok.2.2.2.2.2.1
  simp (maxDischargeDepth := 16) only [argE_nil, argE_cons, ↓vmD, vmV, vmStd, Nat.reduceMul, ↓reduceIte, Nat.reduceAdd, Nat.reduceSub, Nat.reduceEqDiff, Nat.reduceLT, Nat.reduceLeDiff, reduceCtorEq, Int.reduceToNat, Int.reduceLT, Int.reduceLE, Int.reduceEq, Int.reduceNeg, Int.reduceBEq, Int.reduceBNe, String.reduceEq, forall_const, ↓vmDA, vmVA, ↓vmQA, vmR, vmRA, ↓vmSA, vmSV, tyS, nuE, SubA.skip, SubA.refl, fr.2, areDigits_v, panSum_v, rdigits_v, rsum_v, panLuhn_v, rLuhn_v, panCheck_v, rCheck_v, panCd_v, rCd_v, isPrefix_v, rMake_v, isLet_v, isId_v, isNm_v, isTm_v, rIsId_v, rIsNm_v, rDomain_v, lr]
  obtain ⟨e, l, he, hd, hn⟩ : ∃ (e : Nat) (l : List Tok), e = 0 ∧ l = L.drop e ∧ ∀ y ∈ L.take e, y.tok ≠ s := ⟨0, L, rfl, rfl, by simp⟩
  rw [show (5, some (Value.int .i64 0)) = (5, some (Value.int .i64 (e : Int))) by rw [he]; rfl]
  clear he nuE fr
  induction l generalizing e with
  | nil =>
    have hle := drop_nil hd
    have lt : ((e : Int) < (L.length : Int)) = False := eq_false (by omega)
    have hp : posT s L = none := posT_none fun y hy => hn y (by rw [List.take_of_length_le hle]; exact hy)
    refine LoopA.intro (by kernel_rfl) ?_
    intro ν fr; have nuE := fr.nu
    simp (maxDischargeDepth := 16) only [argE_nil, argE_cons, ↓vmD, vmV, vmStd, Nat.reduceMul, ↓reduceIte, Nat.reduceAdd, Nat.reduceSub, Nat.reduceEqDiff, Nat.reduceLT, Nat.reduceLeDiff, reduceCtorEq, Int.reduceToNat, Int.reduceLT, Int.reduceLE, Int.reduceEq, Int.reduceNeg, Int.reduceBEq, Int.reduceBNe, String.reduceEq, forall_const, ↓vmDA, vmVA, ↓vmQA, vmR, vmRA, ↓vmSA, vmSV, tyS, nuE, SubA.skip, SubA.refl, fr.2, areDigits_v, panSum_v, rdigits_v, rsum_v, panLuhn_v, rLuhn_v, panCheck_v, rCheck_v, panCd_v, rCd_v, isPrefix_v, rMake_v, isLet_v, isId_v, isNm_v, isTm_v, rIsId_v, rIsNm_v, rDomain_v, lr, lt, hp]
  | cons x l ih =>
    obtain ⟨ha, hlt, hd'⟩ := drop_some hd
    have lt : ((e : Int) < (L.length : Int)) = True := eq_true (by omega)
    have we : IntKind.i64.wrap ((e : Int) + 1) = ((e + 1 : Nat) : Int) := by rw [w_i64 (by omega) (by omega)]; omega
    obtain ⟨bk, off, cs, ty, fr0, hp0, hbk, hcr, hcc⟩ := hs.at ha
    subst hp0
    have hc0 : cs[off + e * 7]? = some (.string (bs x.tok)) := hcc 0 _ rfl
    have t1 : ((bs x.tok).toList = (bs s).toList) = (x.tok = s) := by rw [bs_list, bs_list]
    refine LoopA.intro (by kernel_rfl) ?_
    intro ν fr; have nuE := fr.nu
    by_cases hx : x.tok = s
    · have hp := posT_drop hd hn hx
      simp (maxDischargeDepth := 16) only [argE_nil, argE_cons, ↓vmD, vmV, vmStd, Nat.reduceMul, ↓reduceIte, Nat.reduceAdd, Nat.reduceSub, Nat.reduceEqDiff, Nat.reduceLT, Nat.reduceLeDiff, reduceCtorEq, Int.reduceToNat, Int.reduceLT, Int.reduceLE, Int.reduceEq, Int.reduceNeg, Int.reduceBEq, Int.reduceBNe, String.reduceEq, forall_const, ↓vmDA, vmVA, ↓vmQA, vmR, vmRA, ↓vmSA, vmSV, tyS, nuE, SubA.skip, SubA.refl, fr.2, areDigits_v, panSum_v, rdigits_v, rsum_v, panLuhn_v, rLuhn_v, panCheck_v, rCheck_v, panCd_v, rCd_v, isPrefix_v, rMake_v, isLet_v, isId_v, isNm_v, isTm_v, rIsId_v, rIsNm_v, rDomain_v, lr, lt, hbk, hc0, t1, hx, hp]
    · simp (maxDischargeDepth := 16) only [argE_nil, argE_cons, ↓vmD, vmV, vmStd, Nat.reduceMul, ↓reduceIte, Nat.reduceAdd, Nat.reduceSub, Nat.reduceEqDiff, Nat.reduceLT, Nat.reduceLeDiff, reduceCtorEq, Int.reduceToNat, Int.reduceLT, Int.reduceLE, Int.reduceEq, Int.reduceNeg, Int.reduceBEq, Int.reduceBNe, String.reduceEq, forall_const, ↓vmDA, vmVA, ↓vmQA, vmR, vmRA, ↓vmSA, vmSV, tyS, nuE, SubA.skip, SubA.refl, fr.2, areDigits_v, panSum_v, rdigits_v, rsum_v, panLuhn_v, rLuhn_v, panCheck_v, rCheck_v, panCd_v, rCd_v, isPrefix_v, rMake_v, isLet_v, isId_v, isNm_v, isTm_v, rIsId_v, rIsNm_v, rDomain_v, lr, lt, hbk, hc0, t1, hx, we]
      exact LoopA.weak (ih (e + 1) hd' (posT_skip ha hn hx)) (by simp only [subE, get_cons, Nat.reduceEqDiff, ↓reduceIte, reduceCtorEq, Nat.reduceAdd, and_self, and_true]) (SubA.refl _)
theorem rfind_w (E : AH) (rb : Nat) (p : List UInt8) (len : Nat) (L : List Tok) (hE : VauR E rb p len L) (s : List UInt8) (B_ : AH) (hB_ : SubA E B_) : valA Tryd.prog 43 #[.pointer (some ⟨rb, 0, none⟩), .string (bs s)] B_ = some (.int .i64 (match posT s L with | some i => (i : Int) | none => -1)) := valA_eq (pureA_at (by kernel_rfl) (rfind_h E rb p len L hE s) hB_)
theorem rfind_v (E : AH) (rb : Nat) (p : List UInt8) (len : Nat) (L : List Tok) (hE : VauR E rb p len L) (s : List UInt8) : valA Tryd.prog 43 #[.pointer (some ⟨rb, 0, none⟩), .string (bs s)] E = some (.int .i64 (match posT s L with | some i => (i : Int) | none => -1)) := valA_eq (pureA_at (by kernel_rfl) (rfind_h E rb p len L hE s) (SubA.refl _))
theorem rIs_h (E : AH) (rb : Nat) (p : List UInt8) (len : Nat) (L : List Tok) (hE : VauR E rb p len L) (s : List UInt8) (hs : s.length ≤ 10000) : CallA Tryd.prog 25 #[.pointer (some ⟨rb, 0, none⟩), .string (bs s)] E (fun u_ A_ => u_ = .bool (isV p len s) ∧ SubA E A_) := by
  refine callA_of_denA ⟨Tryd.prog, 25, Tryd.f25, 45, [0, 1, 4], [], [(1, .q false)], _⟩ (args := [_, _]) Tryd.func25 rfl (by kernel_rfl) Tryd.ntmps25 (by simp) (by kernel_rfl) ?_
  intro ν fr; have nuE := fr.nu
  obtain ⟨q, cap, lr, _, hok⟩ := hE.out
  have hp10 := hok.2.2.2.1
  have ck := fun A => rCheck_v s (by omega) A
  by_cases h0 : chk s = 0
  rotate_left
  · have h02 : decide (chk s = 0) = false := by simpa using h0
    simp (maxDischargeDepth := 16) only [argE_nil, argE_cons, ↓vmD, vmV, vmStd, Nat.reduceMul, ↓reduceIte, Nat.reduceAdd, Nat.reduceSub, Nat.reduceEqDiff, Nat.reduceLT, Nat.reduceLeDiff, reduceCtorEq, Int.reduceToNat, Int.reduceLT, Int.reduceLE, Int.reduceEq, Int.reduceNeg, Int.reduceBEq, Int.reduceBNe, String.reduceEq, forall_const, ↓vmDA, vmVA, ↓vmQA, vmR, vmRA, ↓vmSA, vmSV, tyS, nuE, SubA.skip, SubA.refl, fr.2, areDigits_v, panSum_v, rdigits_v, rsum_v, panLuhn_v, rLuhn_v, panCheck_v, rCheck_v, panCd_v, rCd_v, isPrefix_v, rMake_v, isLet_v, isId_v, isNm_v, isTm_v, rIsId_v, rIsNm_v, rDomain_v, ck, chk_beq, h02, lr, isV_eq, Bool.false_and]
  by_cases hl : s.length = len
  rotate_left
  · have hl2 : decide (s.length = len) = false := by simpa using hl
    simp (maxDischargeDepth := 16) only [argE_nil, argE_cons, ↓vmD, vmV, vmStd, Nat.reduceMul, ↓reduceIte, Nat.reduceAdd, Nat.reduceSub, Nat.reduceEqDiff, Nat.reduceLT, Nat.reduceLeDiff, reduceCtorEq, Int.reduceToNat, Int.reduceLT, Int.reduceLE, Int.reduceEq, Int.reduceNeg, Int.reduceBEq, Int.reduceBNe, String.reduceEq, forall_const, ↓vmDA, vmVA, ↓vmQA, vmR, vmRA, ↓vmSA, vmSV, tyS, nuE, SubA.skip, SubA.refl, fr.2, areDigits_v, panSum_v, rdigits_v, rsum_v, panLuhn_v, rLuhn_v, panCheck_v, rCheck_v, panCd_v, rCd_v, isPrefix_v, rMake_v, isLet_v, isId_v, isNm_v, isTm_v, rIsId_v, rIsNm_v, rDomain_v, ck, chk_beq, h0, bs_size, i_beqn, lr, hl2, isV_eq, decide_true, Bool.true_and, Bool.false_and]
  have h12 := hok.1
  have c1 : ((p.length : Int) ≤ (s.length : Int)) = True := eq_true (by omega)
  have c2 : ((p.length : Int) ≤ (len : Int)) = True := eq_true (by omega)
  have t1 : ((bs (s.take p.length)).toList = (bs p).toList) = (s.take p.length = p) := by rw [bs_list, bs_list]
  simp (maxDischargeDepth := 16) only [argE_nil, argE_cons, ↓vmD, vmV, vmStd, Nat.reduceMul, ↓reduceIte, Nat.reduceAdd, Nat.reduceSub, Nat.reduceEqDiff, Nat.reduceLT, Nat.reduceLeDiff, reduceCtorEq, Int.reduceToNat, Int.reduceLT, Int.reduceLE, Int.reduceEq, Int.reduceNeg, Int.reduceBEq, Int.reduceBNe, String.reduceEq, forall_const, ↓vmDA, vmVA, ↓vmQA, vmR, vmRA, ↓vmSA, vmSV, tyS, nuE, SubA.skip, SubA.refl, fr.2, areDigits_v, panSum_v, rdigits_v, rsum_v, panLuhn_v, rLuhn_v, panCheck_v, rCheck_v, panCd_v, rCd_v, isPrefix_v, rMake_v, isLet_v, isId_v, isNm_v, isTm_v, rIsId_v, rIsNm_v, rDomain_v, ck, chk_beq, h0, bs_size, i_beqn, lr, hl, c1, c2, bs_ext, t1, isV_eq, decide_true, Bool.true_and]
  rw [bs_list, bs_list, take_beq]
theorem rIs_w (E : AH) (rb : Nat) (p : List UInt8) (len : Nat) (L : List Tok) (hE : VauR E rb p len L) (s : List UInt8) (hs : s.length ≤ 10000) (B_ : AH) (hB_ : SubA E B_) : valA Tryd.prog 25 #[.pointer (some ⟨rb, 0, none⟩), .string (bs s)] B_ = some (.bool (isV p len s)) := valA_eq (pureA_at (by kernel_rfl) (rIs_h E rb p len L hE s hs) hB_)
theorem rIs_v (E : AH) (rb : Nat) (p : List UInt8) (len : Nat) (L : List Tok) (hE : VauR E rb p len L) (s : List UInt8) (hs : s.length ≤ 10000) : valA Tryd.prog 25 #[.pointer (some ⟨rb, 0, none⟩), .string (bs s)] E = some (.bool (isV p len s)) := valA_eq (pureA_at (by kernel_rfl) (rIs_h E rb p len L hE s hs) (SubA.refl _))
set_option linter.unusedSimpArgs false
set_option linter.unusedVariables false
set_option maxHeartbeats 4000000
set_option maxRecDepth 20000
theorem dom2 {a b x : Nat} {o1 o2 p1 p2 : Obj} (h : Vm.look [(a, p1), (b, p2)] x ≠ none) : Vm.look [(a, o1), (b, o2)] x ≠ none := by
  simp only [Vm.look] at h ⊢
  by_cases h1 : a = x
  · simp [h1]
  · by_cases h2 : b = x
    · simp [h1, h2]
    · simp [h1, h2] at h
def moveX (L : List Tok) (s : List UInt8) (a b tw : Int) : Int × List Tok := match posT s L with
  | none => (6, L)
  | some i => match L[i]? with
    | none => (6, L)
    | some x => if x.st = a ∨ x.st = b then (0, L.set i { x with st := tw }) else (8, L)
theorem rmove_h (E : AH) (rb : Nat) (p : List UInt8) (len : Nat) (L : List Tok) (hE : VauR E rb p len L) (s : List UInt8) (a b tw : Int) : CallA Tryd.prog 56 #[.pointer (some ⟨rb, 0, none⟩), .string (bs s), .int .i64 a, .int .i64 b, .int .i64 tw] E (fun u_ A_ => u_ = .int .i64 (moveX L s a b tw).1 ∧ ∃ E', VauR E' rb p len (moveX L s a b tw).2 ∧ SubA E' A_ ∧ ∀ x, Vm.look E x ≠ none → Vm.look A_ x ≠ none) := by
  refine callA_of_denA ⟨Tryd.prog, 56, Tryd.f56, 47, [0, 1, 2, 3, 4, 10, 11], [], [], _⟩ (args := [_, _, _, _, _]) Tryd.func56 rfl (by kernel_rfl) Tryd.ntmps56 (by simp) (by kernel_rfl) ?_
  intro ν fr; have nuE := fr.nu
  have fn := rfind_v E rb p len L hE s
  cases hp : posT s L with
  | none =>
    have e : moveX L s a b tw = (6, L) := by unfold moveX; rw [hp]
    simp only [hp] at fn
    simp (maxDischargeDepth := 16) only [argE_nil, argE_cons, ↓vmD, vmV, vmStd, Nat.reduceMul, ↓reduceIte, Nat.reduceAdd, Nat.reduceSub, Nat.reduceEqDiff, Nat.reduceLT, Nat.reduceLeDiff, reduceCtorEq, Int.reduceToNat, Int.reduceLT, Int.reduceLE, Int.reduceEq, Int.reduceNeg, Int.reduceBEq, Int.reduceBNe, String.reduceEq, forall_const, ↓vmDA, vmVA, ↓vmQA, vmR, vmRA, ↓vmSA, vmSV, tyS, nuE, SubA.skip, SubA.refl, fr.2, areDigits_v, panSum_v, rdigits_v, rsum_v, panLuhn_v, rLuhn_v, panCheck_v, rCheck_v, panCd_v, rCd_v, isPrefix_v, rMake_v, isLet_v, isId_v, isNm_v, isTm_v, rIsId_v, rIsNm_v, rDomain_v, fn, e]
    exact ⟨E, hE, SubA.refl _, fun x hx => hx⟩
  | some i =>
    obtain ⟨x, hx, hxs, hlt⟩ := posT_lt hp
    simp only [hp] at fn
    obtain ⟨g, cap, cur, rfl, ho, g1, hok, _, hcr, hcc⟩ := vaur_at hE hx
    have e1 : ((rb = g) = False) ∧ ((g = rb) = False) := ⟨eq_false g1, eq_false fun e => g1 e.symm⟩
    have c3 : ((i : Int) < 0) = False := eq_false (by omega)
    have c4 : ((i : Int) < (L.length : Int)) = True := eq_true (by omega)
    have c5 := hcc 5 _ rfl
    by_cases h1 : x.st = a ∨ x.st = b
    · have e : moveX L s a b tw = (0, L.set i { x with st := tw }) := by unfold moveX; simp only [hp, hx]; rw [if_pos h1]
      obtain ⟨hset, hsz⟩ := ho.set tok_len hlt { x with st := tw }
      rw [splice_st tw hcc] at hset
      have sz : (i * 7 + 5 + 1 ≤ cur.size) = True := eq_true (by omega)
      have fin : ∃ E', VauR E' rb p len (L.set i { x with st := tw }) ∧ SubA E' [(rb, (Obj.cells #[.string (bs p), .int .i64 (len : Int), .slice (some ⟨g, 0, none⟩) L.length cap] 51)), (g, (Obj.cells (cur.setIfInBounds (i * 7 + 5) (.int .i64 tw)) 53))] ∧ ∀ y, Vm.look [(rb, (Obj.cells #[.string (bs p), .int .i64 (len : Int), .slice (some ⟨g, 0, none⟩) L.length cap] 51)), (g, (Obj.cells cur 53))] y ≠ none → Vm.look [(rb, (Obj.cells #[.string (bs p), .int .i64 (len : Int), .slice (some ⟨g, 0, none⟩) L.length cap] 51)), (g, (Obj.cells (cur.setIfInBounds (i * 7 + 5) (.int .i64 tw)) 53))] y ≠ none :=
        ⟨_, ⟨_, _, rfl, hset, by simp [Vm.look, e1], tokOk_set hok hx rfl⟩, SubA.refl _, fun y hy => by
          simp only [Vm.look] at hy ⊢
          split
          · simp
          · rename_i h; rw [if_neg h] at hy
            split
            · simp
            · rename_i h2; rw [if_neg h2] at hy; exact hy⟩
      by_cases h2 : x.st = a
      · have h2t := eq_true h2
        simp (maxDischargeDepth := 16) only [argE_nil, argE_cons, ↓vmD, vmV, vmStd, Nat.reduceMul, ↓reduceIte, Nat.reduceAdd, Nat.reduceSub, Nat.reduceEqDiff, Nat.reduceLT, Nat.reduceLeDiff, reduceCtorEq, Int.reduceToNat, Int.reduceLT, Int.reduceLE, Int.reduceEq, Int.reduceNeg, Int.reduceBEq, Int.reduceBNe, String.reduceEq, forall_const, ↓vmDA, vmVA, ↓vmQA, vmR, vmRA, ↓vmSA, vmSV, tyS, nuE, SubA.skip, SubA.refl, fr.2, areDigits_v, panSum_v, rdigits_v, rsum_v, panLuhn_v, rLuhn_v, panCheck_v, rCheck_v, panCd_v, rCd_v, isPrefix_v, rMake_v, isLet_v, isId_v, isNm_v, isTm_v, rIsId_v, rIsNm_v, rDomain_v, fn, e, c3, c4, e1, c5, h2t, sz]
        exact fin
      · have h3 : x.st = b := h1.resolve_left h2
        have h3t := eq_true h3
        simp (maxDischargeDepth := 16) only [argE_nil, argE_cons, ↓vmD, vmV, vmStd, Nat.reduceMul, ↓reduceIte, Nat.reduceAdd, Nat.reduceSub, Nat.reduceEqDiff, Nat.reduceLT, Nat.reduceLeDiff, reduceCtorEq, Int.reduceToNat, Int.reduceLT, Int.reduceLE, Int.reduceEq, Int.reduceNeg, Int.reduceBEq, Int.reduceBNe, String.reduceEq, forall_const, ↓vmDA, vmVA, ↓vmQA, vmR, vmRA, ↓vmSA, vmSV, tyS, nuE, SubA.skip, SubA.refl, fr.2, areDigits_v, panSum_v, rdigits_v, rsum_v, panLuhn_v, rLuhn_v, panCheck_v, rCheck_v, panCd_v, rCd_v, isPrefix_v, rMake_v, isLet_v, isId_v, isNm_v, isTm_v, rIsId_v, rIsNm_v, rDomain_v, fn, e, c3, c4, e1, c5, h2, h3t, sz]
        exact fin
    · have e : moveX L s a b tw = (8, L) := by unfold moveX; simp only [hp, hx]; rw [if_neg h1]
      have h2 : ¬ x.st = a := fun h => h1 (.inl h)
      have h3 : ¬ x.st = b := fun h => h1 (.inr h)
      simp (maxDischargeDepth := 16) only [argE_nil, argE_cons, ↓vmD, vmV, vmStd, Nat.reduceMul, ↓reduceIte, Nat.reduceAdd, Nat.reduceSub, Nat.reduceEqDiff, Nat.reduceLT, Nat.reduceLeDiff, reduceCtorEq, Int.reduceToNat, Int.reduceLT, Int.reduceLE, Int.reduceEq, Int.reduceNeg, Int.reduceBEq, Int.reduceBNe, String.reduceEq, forall_const, ↓vmDA, vmVA, ↓vmQA, vmR, vmRA, ↓vmSA, vmSV, tyS, nuE, SubA.skip, SubA.refl, fr.2, areDigits_v, panSum_v, rdigits_v, rsum_v, panLuhn_v, rLuhn_v, panCheck_v, rCheck_v, panCd_v, rCd_v, isPrefix_v, rMake_v, isLet_v, isId_v, isNm_v, isTm_v, rIsId_v, rIsNm_v, rDomain_v, fn, e, c3, c4, e1, c5, h2, h3]
      exact ⟨_, hE, SubA.refl _, fun x hx => hx⟩

theorem VauR.use {E X A1 : AH} {P : Program} {g : FuncId} {args : Array Value} {K : Value → AH → Prop} {u0 : Value} {rb len : Nat} {p : List UInt8} {L' : List Tok}
    (hc : CallA P g args E fun u D => u = u0 ∧ ∃ E', VauR E' rb p len L' ∧ SubA E' D ∧ ∀ x, Vm.look E x ≠ none → Vm.look D x ≠ none) (hs : SubA E A1) (hX : SubA X A1) (hd : Dis E X)
    (hk : ∀ E', VauR E' rb p len L' → Dis E' X → K u0 (E' ++ X)) : CallA P g args A1 K :=
  CallA.use hc hs (fun v D h b hb => h.2.choose_spec.2.2 b hb) X hX hd (by
    rintro v D ⟨rfl, E', h1, h3, h4⟩ dD
    exact ⟨E', h3, hk E' h1 (dD.subl h3)⟩)
theorem VauR.keep {E : AH} {P : Program} {g : FuncId} {args : Array Value} {K : Value → AH → Prop} {u0 : Value} {rb len : Nat} {p : List UInt8} {L' : List Tok}
    (hc : CallA P g args E fun u D => u = u0 ∧ ∃ E', VauR E' rb p len L' ∧ SubA E' D ∧ ∀ x, Vm.look E x ≠ none → Vm.look D x ≠ none)
    (hk : ∀ D, (∃ E', VauR E' rb p len L' ∧ SubA E' D ∧ ∀ x, Vm.look E x ≠ none → Vm.look D x ≠ none) → K u0 D) : CallA P g args E K :=
  hc.mono (by rintro v D ⟨rfl, h⟩; exact hk D h)
theorem rsusp_h (E : AH) (rb : Nat) (p : List UInt8) (len : Nat) (L : List Tok) (hE : VauR E rb p len L) (s : List UInt8) : CallA Tryd.prog 39 #[.pointer (some ⟨rb, 0, none⟩), .string (bs s)] E (fun u_ A_ => u_ = .int .i64 (moveX L s 1 1 2).1 ∧ ∃ E', VauR E' rb p len (moveX L s 1 1 2).2 ∧ SubA E' A_ ∧ ∀ x, Vm.look E x ≠ none → Vm.look A_ x ≠ none) := by
  refine callA_of_denA ⟨Tryd.prog, 39, Tryd.f39, 8, [0, 1, 4], [56], [], _⟩ (args := [_, _]) Tryd.func39 rfl (by kernel_rfl) Tryd.ntmps39 (by simp) (by kernel_rfl) ?_
  intro ν fr; have nuE := fr.nu
  simp (maxDischargeDepth := 16) only [argE_nil, argE_cons, ↓vmD, vmV, vmStd, Nat.reduceMul, ↓reduceIte, Nat.reduceAdd, Nat.reduceSub, Nat.reduceEqDiff, Nat.reduceLT, Nat.reduceLeDiff, reduceCtorEq, Int.reduceToNat, Int.reduceLT, Int.reduceLE, Int.reduceEq, Int.reduceNeg, Int.reduceBEq, Int.reduceBNe, String.reduceEq, forall_const, ↓vmDA, vmVA, ↓vmQA, vmR, vmRA, ↓vmSA, vmSV, tyS, nuE, SubA.skip, SubA.refl, fr.2, areDigits_v, panSum_v, rdigits_v, rsum_v, panLuhn_v, rLuhn_v, panCheck_v, rCheck_v, panCd_v, rCd_v, isPrefix_v, rMake_v, isLet_v, isId_v, isNm_v, isTm_v, rIsId_v, rIsNm_v, rDomain_v]
  refine VauR.keep (rmove_h E rb p len L hE s 1 1 2) fun D hD => ?_
  intro ν1 fr1
  have fr := fr1
  have nuE := fr.nu
  simp (maxDischargeDepth := 16) only [argE_nil, argE_cons, ↓vmD, vmV, vmStd, Nat.reduceMul, ↓reduceIte, Nat.reduceAdd, Nat.reduceSub, Nat.reduceEqDiff, Nat.reduceLT, Nat.reduceLeDiff, reduceCtorEq, Int.reduceToNat, Int.reduceLT, Int.reduceLE, Int.reduceEq, Int.reduceNeg, Int.reduceBEq, Int.reduceBNe, String.reduceEq, forall_const, ↓vmDA, vmVA, ↓vmQA, vmR, vmRA, ↓vmSA, vmSV, tyS, nuE, SubA.skip, SubA.refl, fr.2, areDigits_v, panSum_v, rdigits_v, rsum_v, panLuhn_v, rLuhn_v, panCheck_v, rCheck_v, panCd_v, rCd_v, isPrefix_v, rMake_v, isLet_v, isId_v, isNm_v, isTm_v, rIsId_v, rIsNm_v, rDomain_v]
  exact hD

theorem rresu_h (E : AH) (rb : Nat) (p : List UInt8) (len : Nat) (L : List Tok) (hE : VauR E rb p len L) (s : List UInt8) : CallA Tryd.prog 40 #[.pointer (some ⟨rb, 0, none⟩), .string (bs s)] E (fun u_ A_ => u_ = .int .i64 (moveX L s 2 2 1).1 ∧ ∃ E', VauR E' rb p len (moveX L s 2 2 1).2 ∧ SubA E' A_ ∧ ∀ x, Vm.look E x ≠ none → Vm.look A_ x ≠ none) := by
  refine callA_of_denA ⟨Tryd.prog, 40, Tryd.f40, 8, [0, 1, 4], [56], [], _⟩ (args := [_, _]) Tryd.func40 rfl (by kernel_rfl) Tryd.ntmps40 (by simp) (by kernel_rfl) ?_
  intro ν fr; have nuE := fr.nu
  simp (maxDischargeDepth := 16) only [argE_nil, argE_cons, ↓vmD, vmV, vmStd, Nat.reduceMul, ↓reduceIte, Nat.reduceAdd, Nat.reduceSub, Nat.reduceEqDiff, Nat.reduceLT, Nat.reduceLeDiff, reduceCtorEq, Int.reduceToNat, Int.reduceLT, Int.reduceLE, Int.reduceEq, Int.reduceNeg, Int.reduceBEq, Int.reduceBNe, String.reduceEq, forall_const, ↓vmDA, vmVA, ↓vmQA, vmR, vmRA, ↓vmSA, vmSV, tyS, nuE, SubA.skip, SubA.refl, fr.2, areDigits_v, panSum_v, rdigits_v, rsum_v, panLuhn_v, rLuhn_v, panCheck_v, rCheck_v, panCd_v, rCd_v, isPrefix_v, rMake_v, isLet_v, isId_v, isNm_v, isTm_v, rIsId_v, rIsNm_v, rDomain_v]
  refine VauR.keep (rmove_h E rb p len L hE s 2 2 1) fun D hD => ?_
  intro ν1 fr1
  have fr := fr1
  have nuE := fr.nu
  simp (maxDischargeDepth := 16) only [argE_nil, argE_cons, ↓vmD, vmV, vmStd, Nat.reduceMul, ↓reduceIte, Nat.reduceAdd, Nat.reduceSub, Nat.reduceEqDiff, Nat.reduceLT, Nat.reduceLeDiff, reduceCtorEq, Int.reduceToNat, Int.reduceLT, Int.reduceLE, Int.reduceEq, Int.reduceNeg, Int.reduceBEq, Int.reduceBNe, String.reduceEq, forall_const, ↓vmDA, vmVA, ↓vmQA, vmR, vmRA, ↓vmSA, vmSV, tyS, nuE, SubA.skip, SubA.refl, fr.2, areDigits_v, panSum_v, rdigits_v, rsum_v, panLuhn_v, rLuhn_v, panCheck_v, rCheck_v, panCd_v, rCd_v, isPrefix_v, rMake_v, isLet_v, isId_v, isNm_v, isTm_v, rIsId_v, rIsNm_v, rDomain_v]
  exact hD

theorem rdele_h (E : AH) (rb : Nat) (p : List UInt8) (len : Nat) (L : List Tok) (hE : VauR E rb p len L) (s : List UInt8) : CallA Tryd.prog 41 #[.pointer (some ⟨rb, 0, none⟩), .string (bs s)] E (fun u_ A_ => u_ = .int .i64 (moveX L s 1 2 3).1 ∧ ∃ E', VauR E' rb p len (moveX L s 1 2 3).2 ∧ SubA E' A_ ∧ ∀ x, Vm.look E x ≠ none → Vm.look A_ x ≠ none) := by
  refine callA_of_denA ⟨Tryd.prog, 41, Tryd.f41, 8, [0, 1, 4], [56], [], _⟩ (args := [_, _]) Tryd.func41 rfl (by kernel_rfl) Tryd.ntmps41 (by simp) (by kernel_rfl) ?_
  intro ν fr; have nuE := fr.nu
  simp (maxDischargeDepth := 16) only [argE_nil, argE_cons, ↓vmD, vmV, vmStd, Nat.reduceMul, ↓reduceIte, Nat.reduceAdd, Nat.reduceSub, Nat.reduceEqDiff, Nat.reduceLT, Nat.reduceLeDiff, reduceCtorEq, Int.reduceToNat, Int.reduceLT, Int.reduceLE, Int.reduceEq, Int.reduceNeg, Int.reduceBEq, Int.reduceBNe, String.reduceEq, forall_const, ↓vmDA, vmVA, ↓vmQA, vmR, vmRA, ↓vmSA, vmSV, tyS, nuE, SubA.skip, SubA.refl, fr.2, areDigits_v, panSum_v, rdigits_v, rsum_v, panLuhn_v, rLuhn_v, panCheck_v, rCheck_v, panCd_v, rCd_v, isPrefix_v, rMake_v, isLet_v, isId_v, isNm_v, isTm_v, rIsId_v, rIsNm_v, rDomain_v]
  refine VauR.keep (rmove_h E rb p len L hE s 1 2 3) fun D hD => ?_
  intro ν1 fr1
  have fr := fr1
  have nuE := fr.nu
  simp (maxDischargeDepth := 16) only [argE_nil, argE_cons, ↓vmD, vmV, vmStd, Nat.reduceMul, ↓reduceIte, Nat.reduceAdd, Nat.reduceSub, Nat.reduceEqDiff, Nat.reduceLT, Nat.reduceLeDiff, reduceCtorEq, Int.reduceToNat, Int.reduceLT, Int.reduceLE, Int.reduceEq, Int.reduceNeg, Int.reduceBEq, Int.reduceBNe, String.reduceEq, forall_const, ↓vmDA, vmVA, ↓vmQA, vmR, vmRA, ↓vmSA, vmSV, tyS, nuE, SubA.skip, SubA.refl, fr.2, areDigits_v, panSum_v, rdigits_v, rsum_v, panLuhn_v, rLuhn_v, panCheck_v, rCheck_v, panCd_v, rCd_v, isPrefix_v, rMake_v, isLet_v, isId_v, isNm_v, isTm_v, rIsId_v, rIsNm_v, rDomain_v]
  exact hD

def replX (p : List UInt8) (len : Nat) (L : List Tok) (s num : List UInt8) : Int × List Tok := match posT s L with
  | none => (6, L)
  | some i => match L[i]? with
    | none => (6, L)
    | some x => if x.st = 3 then (8, L) else if chk num ≠ 0 then (chk num, L) else if isV p len num = true then (4, L) else (0, L.set i { x with pan := num })
theorem splice_pan {cur : Array Value} {i : Nat} {x : Tok} (tw : List UInt8) (hcc : ∀ j u, (tokC x)[j]? = some u → cur[i * 7 + j]? = some u) : splice cur (i * 7) (tokC { x with pan := tw }) = cur.setIfInBounds (i * 7 + 1) (.string (bs tw)) := by
  have self : ∀ (c : Array Value) (k : Nat) (v : Value), c[k]? = some v → c.setIfInBounds k v = c := by
    intro c k v h
    apply Array.ext (by simp)
    intro n h1 h2
    rw [Array.getElem_setIfInBounds]
    split
    · rename_i e
      subst e
      have := Array.getElem?_eq_getElem h2
      rw [h] at this
      exact Option.some.inj this
    · rfl
  have ne : ∀ (k : Nat) (v : Value), k ≠ i * 7 + 1 → cur[k]? = some v → ((cur.setIfInBounds (i * 7 + 1) (.string (bs tw))).setIfInBounds k v) = cur.setIfInBounds (i * 7 + 1) (.string (bs tw)) := fun k v hk h => self _ _ _ (by rw [Array.getElem?_setIfInBounds, if_neg (fun e => hk e.symm)]; exact h)
  simp only [tokC, splice]
  rw [self cur (i * 7) _ (hcc 0 _ rfl), ne (i * 7 + 1 + 1) _ (by omega) (hcc 2 _ rfl), ne (i * 7 + 1 + 1 + 1) _ (by omega) (hcc 3 _ rfl), ne (i * 7 + 1 + 1 + 1 + 1) _ (by omega) (hcc 4 _ rfl), ne (i * 7 + 1 + 1 + 1 + 1 + 1) _ (by omega) (hcc 5 _ rfl), ne (i * 7 + 1 + 1 + 1 + 1 + 1 + 1) _ (by omega) (hcc 6 _ rfl)]
theorem rrepl_h (E : AH) (rb : Nat) (p : List UInt8) (len : Nat) (L : List Tok) (hE : VauR E rb p len L) (s num : List UInt8) (hnum : num.length ≤ 10000) : CallA Tryd.prog 42 #[.pointer (some ⟨rb, 0, none⟩), .string (bs s), .string (bs num)] E (fun u_ A_ => u_ = .int .i64 (replX p len L s num).1 ∧ ∃ E', VauR E' rb p len (replX p len L s num).2 ∧ SubA E' A_ ∧ ∀ x, Vm.look E x ≠ none → Vm.look A_ x ≠ none) := by
  refine callA_of_denA ⟨Tryd.prog, 42, Tryd.f42, 39, [0, 1, 2, 6, 7, 8], [], [], _⟩ (args := [_, _, _]) Tryd.func42 rfl (by kernel_rfl) Tryd.ntmps42 (by simp) (by kernel_rfl) ?_
  intro ν fr; have nuE := fr.nu
  have fn := rfind_v E rb p len L hE s
  have ck := fun A => rCheck_v num (by omega) A
  have iv := rIs_v E rb p len L hE num hnum
  cases hp : posT s L with
  | none =>
    have e : replX p len L s num = (6, L) := by unfold replX; rw [hp]
    simp only [hp] at fn
    simp (maxDischargeDepth := 16) only [argE_nil, argE_cons, ↓vmD, vmV, vmStd, Nat.reduceMul, ↓reduceIte, Nat.reduceAdd, Nat.reduceSub, Nat.reduceEqDiff, Nat.reduceLT, Nat.reduceLeDiff, reduceCtorEq, Int.reduceToNat, Int.reduceLT, Int.reduceLE, Int.reduceEq, Int.reduceNeg, Int.reduceBEq, Int.reduceBNe, String.reduceEq, forall_const, ↓vmDA, vmVA, ↓vmQA, vmR, vmRA, ↓vmSA, vmSV, tyS, nuE, SubA.skip, SubA.refl, fr.2, areDigits_v, panSum_v, rdigits_v, rsum_v, panLuhn_v, rLuhn_v, panCheck_v, rCheck_v, panCd_v, rCd_v, isPrefix_v, rMake_v, isLet_v, isId_v, isNm_v, isTm_v, rIsId_v, rIsNm_v, rDomain_v, fn, e]
    exact ⟨E, hE, SubA.refl _, fun x hx => hx⟩
  | some i =>
    obtain ⟨x, hx, hxs, hlt⟩ := posT_lt hp
    simp only [hp] at fn
    have hr : replX p len L s num = if x.st = 3 then (8, L) else if chk num ≠ 0 then (chk num, L) else if isV p len num = true then (4, L) else (0, L.set i { x with pan := num }) := by unfold replX; simp only [hp, hx]
    have hE0 := hE
    obtain ⟨g, cap, cur, rfl, ho, g1, hok, _, hcr, hcc⟩ := vaur_at hE hx
    have e1 : ((rb = g) = False) ∧ ((g = rb) = False) := ⟨eq_false g1, eq_false fun e => g1 e.symm⟩
    have c3 : ((i : Int) < 0) = False := eq_false (by omega)
    have c4 : ((i : Int) < (L.length : Int)) = True := eq_true (by omega)
    have c5 := hcc 5 _ rfl
    by_cases h1 : x.st = 3
    · have e : replX p len L s num = (8, L) := by rw [hr, if_pos h1]
      have h1t := eq_true h1
      simp (maxDischargeDepth := 16) only [argE_nil, argE_cons, ↓vmD, vmV, vmStd, Nat.reduceMul, ↓reduceIte, Nat.reduceAdd, Nat.reduceSub, Nat.reduceEqDiff, Nat.reduceLT, Nat.reduceLeDiff, reduceCtorEq, Int.reduceToNat, Int.reduceLT, Int.reduceLE, Int.reduceEq, Int.reduceNeg, Int.reduceBEq, Int.reduceBNe, String.reduceEq, forall_const, ↓vmDA, vmVA, ↓vmQA, vmR, vmRA, ↓vmSA, vmSV, tyS, nuE, SubA.skip, SubA.refl, fr.2, areDigits_v, panSum_v, rdigits_v, rsum_v, panLuhn_v, rLuhn_v, panCheck_v, rCheck_v, panCd_v, rCd_v, isPrefix_v, rMake_v, isLet_v, isId_v, isNm_v, isTm_v, rIsId_v, rIsNm_v, rDomain_v, fn, e, c3, c4, e1, c5, h1t]
      exact ⟨_, hE0, SubA.refl _, fun x hx => hx⟩
    · by_cases h2 : chk num = 0
      rotate_left
      · have e : replX p len L s num = (chk num, L) := by rw [hr, if_neg h1, if_pos h2]
        have z : decide (chk num = 0) = false := by simpa using h2
        simp (maxDischargeDepth := 16) only [argE_nil, argE_cons, ↓vmD, vmV, vmStd, Nat.reduceMul, ↓reduceIte, Nat.reduceAdd, Nat.reduceSub, Nat.reduceEqDiff, Nat.reduceLT, Nat.reduceLeDiff, reduceCtorEq, Int.reduceToNat, Int.reduceLT, Int.reduceLE, Int.reduceEq, Int.reduceNeg, Int.reduceBEq, Int.reduceBNe, String.reduceEq, forall_const, ↓vmDA, vmVA, ↓vmQA, vmR, vmRA, ↓vmSA, vmSV, tyS, nuE, SubA.skip, SubA.refl, fr.2, areDigits_v, panSum_v, rdigits_v, rsum_v, panLuhn_v, rLuhn_v, panCheck_v, rCheck_v, panCd_v, rCd_v, isPrefix_v, rMake_v, isLet_v, isId_v, isNm_v, isTm_v, rIsId_v, rIsNm_v, rDomain_v, fn, e, c3, c4, e1, c5, h1, ck, chk_bne, z]
        exact ⟨_, hE0, SubA.refl _, fun x hx => hx⟩
      have h2' : ¬ chk num ≠ 0 := fun h => h h2
      cases h3 : isV p len num with
      | true =>
        have e : replX p len L s num = (4, L) := by rw [hr, if_neg h1, if_neg h2', if_pos h3]
        simp (maxDischargeDepth := 16) only [argE_nil, argE_cons, ↓vmD, vmV, vmStd, Nat.reduceMul, ↓reduceIte, Nat.reduceAdd, Nat.reduceSub, Nat.reduceEqDiff, Nat.reduceLT, Nat.reduceLeDiff, reduceCtorEq, Int.reduceToNat, Int.reduceLT, Int.reduceLE, Int.reduceEq, Int.reduceNeg, Int.reduceBEq, Int.reduceBNe, String.reduceEq, forall_const, ↓vmDA, vmVA, ↓vmQA, vmR, vmRA, ↓vmSA, vmSV, tyS, nuE, SubA.skip, SubA.refl, fr.2, areDigits_v, panSum_v, rdigits_v, rsum_v, panLuhn_v, rLuhn_v, panCheck_v, rCheck_v, panCd_v, rCd_v, isPrefix_v, rMake_v, isLet_v, isId_v, isNm_v, isTm_v, rIsId_v, rIsNm_v, rDomain_v, fn, e, c3, c4, e1, c5, h1, ck, chk_bne, h2, iv, h3, decide_true]
        exact ⟨_, hE0, SubA.refl _, fun x hx => hx⟩
      | false =>
        have e : replX p len L s num = (0, L.set i { x with pan := num }) := by rw [hr, if_neg h1, if_neg h2', if_neg (by rw [h3]; simp)]
        obtain ⟨hset, hsz⟩ := ho.set tok_len hlt { x with pan := num }
        rw [splice_pan num hcc] at hset
        have sz : (i * 7 + 1 + 1 ≤ cur.size) = True := eq_true (by omega)
        simp (maxDischargeDepth := 16) only [argE_nil, argE_cons, ↓vmD, vmV, vmStd, Nat.reduceMul, ↓reduceIte, Nat.reduceAdd, Nat.reduceSub, Nat.reduceEqDiff, Nat.reduceLT, Nat.reduceLeDiff, reduceCtorEq, Int.reduceToNat, Int.reduceLT, Int.reduceLE, Int.reduceEq, Int.reduceNeg, Int.reduceBEq, Int.reduceBNe, String.reduceEq, forall_const, ↓vmDA, vmVA, ↓vmQA, vmR, vmRA, ↓vmSA, vmSV, tyS, nuE, SubA.skip, SubA.refl, fr.2, areDigits_v, panSum_v, rdigits_v, rsum_v, panLuhn_v, rLuhn_v, panCheck_v, rCheck_v, panCd_v, rCd_v, isPrefix_v, rMake_v, isLet_v, isId_v, isNm_v, isTm_v, rIsId_v, rIsNm_v, rDomain_v, fn, e, c3, c4, e1, c5, h1, ck, chk_bne, h2, iv, h3, decide_true, sz]
        exact ⟨_, ⟨_, _, rfl, hset, by simp [Vm.look, e1], tokOk_set hok hx rfl⟩, SubA.refl _, fun y hy => dom2 hy⟩

set_option linter.unusedSimpArgs false
set_option linter.unusedVariables false
set_option maxHeartbeats 4000000
set_option maxRecDepth 20000
theorem rnew_h (p : List UInt8) (hp : p.length ≤ 10000) (len : Int) : CallA Tryd.prog 17 #[.string (bs p), .int .i64 len] [] (fun u_ A_ => (mkO p 0 len = false ∧ u_ = .tuple #[.pointer none, .int .i64 4]) ∨ (mkO p 0 len = true ∧ ∃ rb E, u_ = .tuple #[.pointer (some ⟨rb, 0, none⟩), .int .i64 0] ∧ VauR E rb p len.toNat [] ∧ SubA E A_)) := by
  refine callA_of_denA ⟨Tryd.prog, 17, Tryd.f17, 21, [0, 1, 4, 5, 7], [], [], _⟩ (args := [_, _]) Tryd.func17 rfl (by kernel_rfl) Tryd.ntmps17 (by simp) (by kernel_rfl) ?_
  intro ν fr; have nuE := fr.nu
  have pm := fun A => rMake_v p hp 0 len (by omega) A
  cases hO : mkO p 0 len with
  | false =>
    have pv : mkV p 0 len = .tuple #[.string (bs []), .int .i64 4] := by unfold mkV; rw [if_neg (by rw [hO]; simp)]
    rw [pv] at pm
    simp (maxDischargeDepth := 16) only [argE_nil, argE_cons, ↓vmD, vmV, vmStd, Nat.reduceMul, ↓reduceIte, Nat.reduceAdd, Nat.reduceSub, Nat.reduceEqDiff, Nat.reduceLT, Nat.reduceLeDiff, reduceCtorEq, Int.reduceToNat, Int.reduceLT, Int.reduceLE, Int.reduceEq, Int.reduceNeg, Int.reduceBEq, Int.reduceBNe, String.reduceEq, forall_const, ↓vmDA, vmVA, ↓vmQA, vmR, vmRA, ↓vmSA, vmSV, tyS, nuE, SubA.skip, SubA.refl, fr.2, areDigits_v, panSum_v, rdigits_v, rsum_v, panLuhn_v, rLuhn_v, panCheck_v, rCheck_v, panCd_v, rCd_v, isPrefix_v, rMake_v, isLet_v, isId_v, isNm_v, isTm_v, rIsId_v, rIsNm_v, rDomain_v, pm]
  | true =>
    have pv : mkV p 0 len = .tuple #[.string (bs (mkL p (len.toNat - 1 - p.length) 0)), .int .i64 0] := by unfold mkV; rw [if_pos hO]; rfl
    rw [pv] at pm
    simp (maxDischargeDepth := 16) only [argE_nil, argE_cons, ↓vmD, vmV, vmStd, Nat.reduceMul, ↓reduceIte, Nat.reduceAdd, Nat.reduceSub, Nat.reduceEqDiff, Nat.reduceLT, Nat.reduceLeDiff, reduceCtorEq, Int.reduceToNat, Int.reduceLT, Int.reduceLE, Int.reduceEq, Int.reduceNeg, Int.reduceBEq, Int.reduceBNe, String.reduceEq, forall_const, ↓vmDA, vmVA, ↓vmQA, vmR, vmRA, ↓vmSA, vmSV, tyS, nuE, SubA.skip, SubA.refl, fr.2, areDigits_v, panSum_v, rdigits_v, rsum_v, panLuhn_v, rLuhn_v, panCheck_v, rCheck_v, panCd_v, rCd_v, isPrefix_v, rMake_v, isLet_v, isId_v, isNm_v, isTm_v, rIsId_v, rIsNm_v, rDomain_v, pm]
    obtain ⟨a, b, _, rfl, q1, q2, q3, q4, q5, _⟩ := mkO_out hO
    refine ⟨ν 0, [(ν 0, Obj.cells #[.string (bs p), .int .i64 (b : Int), .slice none 0 0] 51)], rfl, ?_, SubA.refl _⟩
    rw [Int.toNat_natCast]
    exact ⟨.slice none 0 0, [], rfl, OwnL.nil _ _ _, rfl, q1, q2, q3, q4, q5, by simp, fun i x hx => by simp at hx⟩

theorem domE_prov {p : List UInt8} {len : Nat} {L : List Tok} {num req mer : List UInt8} {unt at_ : Int} (h1 : chk num = 0) (h2 : isV p len num = false) : provE p len L num req mer unt at_ = if domE req mer unt at_ ≠ 0 then domE req mer unt at_ else if 64 ≤ L.length then 12 else if mkO p (L.length : Int) (len : Int) = false then 12 else 0 := by
  unfold provE domE
  rw [if_neg (fun h => h h1), if_neg (by rw [h2]; simp)]
  cases domN req mer <;> cases domT unt at_ <;> simp
theorem rprov_h (E : AH) (rb : Nat) (p : List UInt8) (len : Nat) (L : List Tok) (hE : VauR E rb p len L) (num req mer : List UInt8) (unt at_ : Int) (hnum : num.length ≤ 10000) (hreq : req.length ≤ 1000000) (hmer : mer.length ≤ 1000000) : CallA Tryd.prog 37 #[.pointer (some ⟨rb, 0, none⟩), .string (bs num), .agg #[.string (bs req), .string (bs mer), .int .i64 unt], .int .i64 at_] E (fun u_ A_ => u_ = provV p len L num req mer unt at_ ∧ ∃ E', VauR E' rb p len (provL p len L num req mer unt at_) ∧ SubA E' A_ ∧ ∀ x, Vm.look E x ≠ none → Vm.look A_ x ≠ none) := by
  refine callA_of_denA ⟨Tryd.prog, 37, Tryd.f37, 72, [0, 1, 2, 3, 6, 8, 9, 10, 11, 12, 13], [], [(11, .q false)], _⟩ (args := [_, _, _, _]) Tryd.func37 rfl (by kernel_rfl) Tryd.ntmps37 (by simp) (by kernel_rfl) ?_
  intro ν fr; have nuE := fr.nu
  have f0 := fr.2 0
  have ck := fun A => rCheck_v num (by omega) A
  have iv := rIs_w E rb p len L hE num hnum _ (SubA.skip (o := (Obj.cells #[.string (bs req), .string (bs mer), .int .i64 unt] 24)) f0 (SubA.refl _))
  have dv := fun A => rDomain_v req mer unt at_ hreq hmer A
  have err : ∀ k : Int, k ≠ 0 → provE p len L num req mer unt at_ = k → (∃ E', VauR E' rb p len (provL p len L num req mer unt at_) ∧ SubA E' ((ν 0, (Obj.cells #[.string (bs req), .string (bs mer), .int .i64 unt] 24)) :: E) ∧ ∀ x, Vm.look E x ≠ none → Vm.look ((ν 0, (Obj.cells #[.string (bs req), .string (bs mer), .int .i64 unt] 24)) :: E) x ≠ none) := fun k hk h =>
    ⟨E, by rw [(prov_err h hk).2]; exact hE, SubA.skip f0 (SubA.refl _), fun x hx => by
      simp only [Vm.look]
      split
      · simp
      · exact hx⟩
  by_cases h1 : chk num = 0
  rotate_left
  · have he : provE p len L num req mer unt at_ = chk num := by unfold provE; rw [if_pos h1]
    have hv := (prov_err he h1).1
    have er := err _ h1 he
    have z : decide (chk num = 0) = false := by simpa using h1
    simp (maxDischargeDepth := 16) only [argE_nil, argE_cons, ↓vmD, vmV, vmStd, Nat.reduceMul, ↓reduceIte, Nat.reduceAdd, Nat.reduceSub, Nat.reduceEqDiff, Nat.reduceLT, Nat.reduceLeDiff, reduceCtorEq, Int.reduceToNat, Int.reduceLT, Int.reduceLE, Int.reduceEq, Int.reduceNeg, Int.reduceBEq, Int.reduceBNe, String.reduceEq, forall_const, ↓vmDA, vmVA, ↓vmQA, vmR, vmRA, ↓vmSA, vmSV, tyS, nuE, SubA.skip, SubA.refl, fr.2, areDigits_v, panSum_v, rdigits_v, rsum_v, panLuhn_v, rLuhn_v, panCheck_v, rCheck_v, panCd_v, rCd_v, isPrefix_v, rMake_v, isLet_v, isId_v, isNm_v, isTm_v, rIsId_v, rIsNm_v, rDomain_v, ck, chk_bne, z, hv]
    exact er
  cases h2 : isV p len num with
  | true =>
    have he : provE p len L num req mer unt at_ = 4 := by unfold provE; rw [if_neg (fun h => h h1), if_pos h2]
    have hv := (prov_err he (by decide)).1
    have er := err _ (by decide) he
    simp (maxDischargeDepth := 16) only [argE_nil, argE_cons, ↓vmD, vmV, vmStd, Nat.reduceMul, ↓reduceIte, Nat.reduceAdd, Nat.reduceSub, Nat.reduceEqDiff, Nat.reduceLT, Nat.reduceLeDiff, reduceCtorEq, Int.reduceToNat, Int.reduceLT, Int.reduceLE, Int.reduceEq, Int.reduceNeg, Int.reduceBEq, Int.reduceBNe, String.reduceEq, forall_const, ↓vmDA, vmVA, ↓vmQA, vmR, vmRA, ↓vmSA, vmSV, tyS, nuE, SubA.skip, SubA.refl, fr.2, areDigits_v, panSum_v, rdigits_v, rsum_v, panLuhn_v, rLuhn_v, panCheck_v, rCheck_v, panCd_v, rCd_v, isPrefix_v, rMake_v, isLet_v, isId_v, isNm_v, isTm_v, rIsId_v, rIsNm_v, rDomain_v, ck, chk_bne, h1, decide_true, iv, h2, hv]
    exact er
  | false =>
  have hp := domE_prov (L := L) (req := req) (mer := mer) (unt := unt) (at_ := at_) h1 h2
  by_cases h3 : domE req mer unt at_ = 0
  rotate_left
  · have he : provE p len L num req mer unt at_ = domE req mer unt at_ := by rw [hp, if_pos h3]
    have hv := (prov_err he h3).1
    have er := err _ h3 he
    have z : (domE req mer unt at_ != 0) = true := by simpa using h3
    simp (maxDischargeDepth := 16) only [argE_nil, argE_cons, ↓vmD, vmV, vmStd, Nat.reduceMul, ↓reduceIte, Nat.reduceAdd, Nat.reduceSub, Nat.reduceEqDiff, Nat.reduceLT, Nat.reduceLeDiff, reduceCtorEq, Int.reduceToNat, Int.reduceLT, Int.reduceLE, Int.reduceEq, Int.reduceNeg, Int.reduceBEq, Int.reduceBNe, String.reduceEq, forall_const, ↓vmDA, vmVA, ↓vmQA, vmR, vmRA, ↓vmSA, vmSV, tyS, nuE, SubA.skip, SubA.refl, fr.2, areDigits_v, panSum_v, rdigits_v, rsum_v, panLuhn_v, rLuhn_v, panCheck_v, rCheck_v, panCd_v, rCd_v, isPrefix_v, rMake_v, isLet_v, isId_v, isNm_v, isTm_v, rIsId_v, rIsNm_v, rDomain_v, ck, chk_bne, h1, decide_true, iv, h2, dv, z, hv]
    exact er
  rw [if_neg (fun h => h h3)] at hp
  obtain ⟨v, Bk, rfl, ho, g2, hok⟩ := hE
  obtain ⟨q, vcap, rfl, hvc, hvs⟩ := ho.read tok_len
  have hl64 := hok.2.2.2.2.2.1
  have pm := fun A => rMake_v p (by have := hok.2.2.2.1; omega) (L.length : Int) (len : Int) (by omega) A
  have nw := fr.ne (b := rb) (by simp (maxDischargeDepth := 16) only [argE_nil, argE_cons, ↓vmD, vmV, vmStd, Nat.reduceMul, ↓reduceIte, Nat.reduceAdd, Nat.reduceSub, Nat.reduceEqDiff, Nat.reduceLT, Nat.reduceLeDiff, reduceCtorEq, Int.reduceToNat, Int.reduceLT, Int.reduceLE, Int.reduceEq, Int.reduceNeg, Int.reduceBEq, Int.reduceBNe, String.reduceEq, forall_const, ↓vmDA, vmVA, ↓vmQA, vmR, vmRA, ↓vmSA, vmSV, tyS, nuE, areDigits_v, panSum_v, rdigits_v, rsum_v, panLuhn_v, rLuhn_v, panCheck_v, rCheck_v, panCd_v, rCd_v, isPrefix_v, rMake_v, isLet_v, isId_v, isNm_v, isTm_v, rIsId_v, rIsNm_v, rDomain_v])
  cases hO : mkO p (L.length : Int) (len : Int) with
  | false =>
    have he : provE p len L num req mer unt at_ = 12 := by rw [hp]; split <;> simp [hO]
    have hv := (prov_err he (by decide)).1
    have er := err _ (by decide) he
    have pv : mkV p (L.length : Int) (len : Int) = .tuple #[.string (bs []), .int .i64 4] := by unfold mkV; rw [if_neg (by rw [hO]; simp)]
    rw [pv] at pm
    by_cases h64 : 64 ≤ L.length
    · have q64 : ((64 : Int) ≤ (L.length : Int)) = True := eq_true (by omega)
      simp (maxDischargeDepth := 16) only [argE_nil, argE_cons, ↓vmD, vmV, vmStd, Nat.reduceMul, ↓reduceIte, Nat.reduceAdd, Nat.reduceSub, Nat.reduceEqDiff, Nat.reduceLT, Nat.reduceLeDiff, reduceCtorEq, Int.reduceToNat, Int.reduceLT, Int.reduceLE, Int.reduceEq, Int.reduceNeg, Int.reduceBEq, Int.reduceBNe, String.reduceEq, forall_const, ↓vmDA, vmVA, ↓vmQA, vmR, vmRA, ↓vmSA, vmSV, tyS, nuE, SubA.skip, SubA.refl, fr.2, areDigits_v, panSum_v, rdigits_v, rsum_v, panLuhn_v, rLuhn_v, panCheck_v, rCheck_v, panCd_v, rCd_v, isPrefix_v, rMake_v, isLet_v, isId_v, isNm_v, isTm_v, rIsId_v, rIsNm_v, rDomain_v, ck, chk_bne, h1, decide_true, iv, h2, dv, h3, nw, pm, q64, hv]
      exact er
    · have q64 : ((64 : Int) ≤ (L.length : Int)) = False := eq_false (by omega)
      simp (maxDischargeDepth := 16) only [argE_nil, argE_cons, ↓vmD, vmV, vmStd, Nat.reduceMul, ↓reduceIte, Nat.reduceAdd, Nat.reduceSub, Nat.reduceEqDiff, Nat.reduceLT, Nat.reduceLeDiff, reduceCtorEq, Int.reduceToNat, Int.reduceLT, Int.reduceLE, Int.reduceEq, Int.reduceNeg, Int.reduceBEq, Int.reduceBNe, String.reduceEq, forall_const, ↓vmDA, vmVA, ↓vmQA, vmR, vmRA, ↓vmSA, vmSV, tyS, nuE, SubA.skip, SubA.refl, fr.2, areDigits_v, panSum_v, rdigits_v, rsum_v, panLuhn_v, rLuhn_v, panCheck_v, rCheck_v, panCd_v, rCd_v, isPrefix_v, rMake_v, isLet_v, isId_v, isNm_v, isTm_v, rIsId_v, rIsNm_v, rDomain_v, ck, chk_bne, h1, decide_true, iv, h2, dv, h3, nw, pm, q64, hv]
      exact er
  | true =>
  have pv : mkV p (L.length : Int) (len : Int) = .tuple #[.string (bs (mkL p (len - 1 - p.length) L.length)), .int .i64 0] := by unfold mkV; rw [if_pos hO]; rfl
  rw [pv] at pm
  by_cases h64 : 64 ≤ L.length
  · have he : provE p len L num req mer unt at_ = 12 := by rw [hp, if_pos h64]
    have hv := (prov_err he (by decide)).1
    have er := err _ (by decide) he
    have q64 : ((64 : Int) ≤ (L.length : Int)) = True := eq_true (by omega)
    simp (maxDischargeDepth := 16) only [argE_nil, argE_cons, ↓vmD, vmV, vmStd, Nat.reduceMul, ↓reduceIte, Nat.reduceAdd, Nat.reduceSub, Nat.reduceEqDiff, Nat.reduceLT, Nat.reduceLeDiff, reduceCtorEq, Int.reduceToNat, Int.reduceLT, Int.reduceLE, Int.reduceEq, Int.reduceNeg, Int.reduceBEq, Int.reduceBNe, String.reduceEq, forall_const, ↓vmDA, vmVA, ↓vmQA, vmR, vmRA, ↓vmSA, vmSV, tyS, nuE, SubA.skip, SubA.refl, fr.2, areDigits_v, panSum_v, rdigits_v, rsum_v, panLuhn_v, rLuhn_v, panCheck_v, rCheck_v, panCd_v, rCd_v, isPrefix_v, rMake_v, isLet_v, isId_v, isNm_v, isTm_v, rIsId_v, rIsNm_v, rDomain_v, ck, chk_bne, h1, decide_true, iv, h2, dv, h3, nw, pm, q64, hv]
    exact er
  have he : provE p len L num req mer unt at_ = 0 := by rw [hp, if_neg h64, if_neg (by rw [hO]; simp)]
  have q64 : ((64 : Int) ≤ (L.length : Int)) = False := eq_false (by omega)
  have sp : Sep [[(ν 0, (Obj.cells #[.string (bs req), .string (bs mer), .int .i64 unt] 24))], [(rb, (Obj.cells #[.string (bs p), .int .i64 (len : Int), .slice q L.length vcap] 51))], Bk] := Sep.fresh (by simpa [cat] using fr.2 0) _ (Sep.fresh (by simpa [cat] using g2) _ (Sep.one Bk))
  have hvv : provV p len L num req mer unt at_ = .tuple #[.string (bs (mkL p (len - 1 - p.length) L.length)), .int .i64 0] := by unfold provV; rw [he, if_pos rfl]
  have hLL : provL p len L num req mer unt at_ = L ++ [provT p len L num req mer unt at_] := by unfold provL; rw [he, if_pos rfl]
  simp (maxDischargeDepth := 16) only [argE_nil, argE_cons, ↓vmD, vmV, vmStd, Nat.reduceMul, ↓reduceIte, Nat.reduceAdd, Nat.reduceSub, Nat.reduceEqDiff, Nat.reduceLT, Nat.reduceLeDiff, reduceCtorEq, Int.reduceToNat, Int.reduceLT, Int.reduceLE, Int.reduceEq, Int.reduceNeg, Int.reduceBEq, Int.reduceBNe, String.reduceEq, forall_const, ↓vmDA, vmVA, ↓vmQA, vmR, vmRA, ↓vmSA, vmSV, tyS, nuE, SubA.skip, SubA.refl, fr.2, areDigits_v, panSum_v, rdigits_v, rsum_v, panLuhn_v, rLuhn_v, panCheck_v, rCheck_v, panCd_v, rCd_v, isPrefix_v, rMake_v, isLet_v, isId_v, isNm_v, isTm_v, rIsId_v, rIsNm_v, rDomain_v, ck, chk_bne, h1, decide_true, iv, h2, dv, h3, nw, pm, q64]
  refine MeantA.plan [(0, 0), (1, 0), (2, 0), (3, 0), (4, 0), (5, 0), (6, 0), (7, 0), (8, 0), (9, 0), (10, 0), (11, 1), (12, 0), (13, 0), (14, 2)] [(ν 0, (Obj.cells #[.string (bs req), .string (bs mer), .int .i64 unt] 24)), (rb, (Obj.cells #[.string (bs p), .int .i64 (len : Int), .slice q L.length vcap] 51))] (SubA.left [_, _] _) (by kernel_rfl) (by kernel_rfl) (by kernel_rfl) (by kernel_rfl) (by kernel_rfl) (by kernel_rfl) ?_
  intro ν1 fr1
  have nn := fr1.ne (b := ν 0) (by simp (maxDischargeDepth := 16) only [argE_nil, argE_cons, ↓vmD, vmV, vmStd, Nat.reduceMul, ↓reduceIte, Nat.reduceAdd, Nat.reduceSub, Nat.reduceEqDiff, Nat.reduceLT, Nat.reduceLeDiff, reduceCtorEq, Int.reduceToNat, Int.reduceLT, Int.reduceLE, Int.reduceEq, Int.reduceNeg, Int.reduceBEq, Int.reduceBNe, String.reduceEq, forall_const, ↓vmDA, vmVA, ↓vmQA, vmR, vmRA, ↓vmSA, vmSV, tyS, nuE, SubA.skip, SubA.refl, fr.2, areDigits_v, panSum_v, rdigits_v, rsum_v, panLuhn_v, rLuhn_v, panCheck_v, rCheck_v, panCd_v, rCd_v, isPrefix_v, rMake_v, isLet_v, isId_v, isNm_v, isTm_v, rIsId_v, rIsNm_v, rDomain_v])
  have nv1 := fr1.ne (b := rb) (by simp (maxDischargeDepth := 16) only [argE_nil, argE_cons, ↓vmD, vmV, vmStd, Nat.reduceMul, ↓reduceIte, Nat.reduceAdd, Nat.reduceSub, Nat.reduceEqDiff, Nat.reduceLT, Nat.reduceLeDiff, reduceCtorEq, Int.reduceToNat, Int.reduceLT, Int.reduceLE, Int.reduceEq, Int.reduceNeg, Int.reduceBEq, Int.reduceBNe, String.reduceEq, forall_const, ↓vmDA, vmVA, ↓vmQA, vmR, vmRA, ↓vmSA, vmSV, tyS, nuE, SubA.skip, SubA.refl, fr.2, areDigits_v, panSum_v, rdigits_v, rsum_v, panLuhn_v, rLuhn_v, panCheck_v, rCheck_v, panCd_v, rCd_v, isPrefix_v, rMake_v, isLet_v, isId_v, isNm_v, isTm_v, rIsId_v, rIsNm_v, rDomain_v, nw])
  have n1' := fr1.2 0
  have fr := fr1
  have nuE := fr1.nu
  simp (maxDischargeDepth := 16) only [argE_nil, argE_cons, ↓vmD, vmV, vmStd, Nat.reduceMul, ↓reduceIte, Nat.reduceAdd, Nat.reduceSub, Nat.reduceEqDiff, Nat.reduceLT, Nat.reduceLeDiff, reduceCtorEq, Int.reduceToNat, Int.reduceLT, Int.reduceLE, Int.reduceEq, Int.reduceNeg, Int.reduceBEq, Int.reduceBNe, String.reduceEq, forall_const, ↓vmDA, vmVA, ↓vmQA, vmR, vmRA, ↓vmSA, vmSV, tyS, nuE, SubA.skip, SubA.refl, fr.2, areDigits_v, panSum_v, rdigits_v, rsum_v, panLuhn_v, rLuhn_v, panCheck_v, rCheck_v, panCd_v, rCd_v, isPrefix_v, rMake_v, isLet_v, isId_v, isNm_v, isTm_v, rIsId_v, rIsNm_v, rDomain_v, nw, nn, nv1, sc_tok]
  have hX : SubA (cat [[(ν 0, (Obj.cells #[.string (bs req), .string (bs mer), .int .i64 unt] 24))], [(rb, (Obj.cells #[.string (bs p), .int .i64 (len : Int), .slice q L.length vcap] 51))]]) ((ν 0, (Obj.cells #[.string (bs req), .string (bs mer), .int .i64 unt] 24)) :: (rb, (Obj.cells #[.string (bs p), .int .i64 (len : Int), .slice q L.length vcap] 51)) :: Bk) := sp.subs [0, 1] rfl
  have hBs : SubA Bk ((ν 0, (Obj.cells #[.string (bs req), .string (bs mer), .int .i64 unt] 24)) :: (rb, (Obj.cells #[.string (bs p), .int .i64 (len : Int), .slice q L.length vcap] 51)) :: Bk) := sp.subs [2] rfl
  have hXs : SubA (cat [[(ν 0, (Obj.cells #[.string (bs req), .string (bs mer), .int .i64 unt] 24))], [(rb, (Obj.cells #[.string (bs p), .int .i64 (len : Int), .slice q L.length vcap] 51))]]) ((ν1 0, (Obj.cells #[.string (bs (mkL p (len - 1 - p.length) L.length)), .string (bs num), .string (bs req), .string (bs mer), .int .i64 unt, .int .i64 1, .int .i64 at_] 53)) :: (ν 0, (Obj.cells #[.string (bs req), .string (bs mer), .int .i64 unt] 24)) :: (rb, (Obj.cells #[.string (bs p), .int .i64 (len : Int), .slice q L.length vcap] 51)) :: Bk) := SubA.skip (hX.none n1') hX
  refine RunA.use ?_
  refine append_src (m := 1) (news := tokC (provT p len L num req mer unt at_)) (B := Bk) slc49 zro53 rfl (by decide) ho ?_ (.inr ⟨ν1 0, 0, rfl, ?_⟩) (by simp [tokC, Value.oneCell']) (by simp only [maxLen]; omega) (by omega) ?_
  · exact SubA.skip (hBs.none n1') hBs
  · simp (maxDischargeDepth := 16) only [argE_nil, argE_cons, ↓vmD, vmV, vmStd, Nat.reduceMul, ↓reduceIte, Nat.reduceAdd, Nat.reduceSub, Nat.reduceEqDiff, Nat.reduceLT, Nat.reduceLeDiff, reduceCtorEq, Int.reduceToNat, Int.reduceLT, Int.reduceLE, Int.reduceEq, Int.reduceNeg, Int.reduceBEq, Int.reduceBNe, String.reduceEq, forall_const, ↓vmDA, vmVA, ↓vmQA, vmR, vmRA, ↓vmSA, vmSV, tyS, nuE, SubA.skip, SubA.refl, fr.2, areDigits_v, panSum_v, rdigits_v, rsum_v, panLuhn_v, rLuhn_v, panCheck_v, rCheck_v, panCd_v, rCd_v, isPrefix_v, rMake_v, isLet_v, isId_v, isNm_v, isTm_v, rIsId_v, rIsNm_v, rDomain_v, tokC, provT]
  intro v' B' ho' hb'
  have dX : Dis Bk (cat [[(ν 0, (Obj.cells #[.string (bs req), .string (bs mer), .int .i64 unt] 24))], [(rb, (Obj.cells #[.string (bs p), .int .i64 (len : Int), .slice q L.length vcap] 51))]]) := (sp.pick [2, 0, 1] rfl rfl).dis
  have dB' : Dis B' (cat [[(ν 0, (Obj.cells #[.string (bs req), .string (bs mer), .int .i64 unt] 24))], [(rb, (Obj.cells #[.string (bs p), .int .i64 (len : Int), .slice q L.length vcap] 51))]]) := ap_dis hb' dX hXs
  have sp' : Sep [B', [(ν 0, (Obj.cells #[.string (bs req), .string (bs mer), .int .i64 unt] 24))], [(rb, (Obj.cells #[.string (bs p), .int .i64 (len : Int), .slice q L.length vcap] 51))]] := Sep.cons dB' (sp.pick [0, 1] rfl rfl)
  have ow' : OwnL tokC 7 53 v' B' (L ++ [provT p len L num req mer unt at_]) := by
    unfold OwnL
    rw [List.length_append, List.flatMap_append]
    simpa using ho'
  obtain ⟨q2, vcap2, rfl, _, _⟩ := ow'.read tok_len
  have b0 : Vm.look B' (ν 0) = none := dB' _ (by simp [cat, Vm.look])
  have b1 : Vm.look B' rb = none := dB' _ (by simp [cat, Vm.look, nw])
  have hBA : SubA Bk ((ν1 0, (Obj.cells #[.string (bs (mkL p (len - 1 - p.length) L.length)), .string (bs num), .string (bs req), .string (bs mer), .int .i64 unt, .int .i64 1, .int .i64 at_] 53)) :: (ν 0, (Obj.cells #[.string (bs req), .string (bs mer), .int .i64 unt] 24)) :: (rb, (Obj.cells #[.string (bs p), .int .i64 (len : Int), .slice q L.length vcap] 51)) :: Bk) := SubA.skip (hBs.none n1') hBs
  refine ⟨(ν 0, (Obj.cells #[.string (bs req), .string (bs mer), .int .i64 unt] 24)) :: (rb, (Obj.cells #[.string (bs p), .int .i64 (len : Int), .slice q L.length vcap] 51)) :: (B' ++ Bk), SubA.both (X := [_, _]) (dB'.sub hXs) (SubA.app hBA), ?_⟩
  intro ν2 fr2
  have fr := fr2
  have nuE := fr.nu
  simp (maxDischargeDepth := 16) only [argE_nil, argE_cons, ↓vmD, vmV, vmStd, Nat.reduceMul, ↓reduceIte, Nat.reduceAdd, Nat.reduceSub, Nat.reduceEqDiff, Nat.reduceLT, Nat.reduceLeDiff, reduceCtorEq, Int.reduceToNat, Int.reduceLT, Int.reduceLE, Int.reduceEq, Int.reduceNeg, Int.reduceBEq, Int.reduceBNe, String.reduceEq, forall_const, ↓vmDA, vmVA, ↓vmQA, vmR, vmRA, ↓vmSA, vmSV, tyS, nuE, SubA.skip, SubA.refl, fr.2, areDigits_v, panSum_v, rdigits_v, rsum_v, panLuhn_v, rLuhn_v, panCheck_v, rCheck_v, panCd_v, rCd_v, isPrefix_v, rMake_v, isLet_v, isId_v, isNm_v, isTm_v, rIsId_v, rIsNm_v, rDomain_v, nw, hvv]
  refine ⟨(rb, (Obj.cells #[.string (bs p), .int .i64 (len : Int), .slice q2 (L ++ [provT p len L num req mer unt at_]).length vcap2] 51)) :: B', ?_, ?_, fun x hx => ?_⟩
  · rw [hLL]
    exact ⟨_, B', rfl, ow', b1, tokOk_app hok h64 hO rfl⟩
  · exact SubA.skip (by simp [Vm.look, look_append, nw, b0]) (SubA.left (_ :: B') Bk)
  · simp only [Vm.look, look_append] at hx ⊢
    split
    · simp
    · rename_i n
      split
      · simp
      · rename_i n2
        split
        · simp
        · simpa [n2] using hx

theorem rresolve_h (E : AH) (rb : Nat) (p : List UInt8) (len : Nat) (L : List Tok) (hE : VauR E rb p len L) (s req mer : List UInt8) (at_ : Int) : CallA Tryd.prog 38 #[.pointer (some ⟨rb, 0, none⟩), .string (bs s), .string (bs req), .string (bs mer), .int .i64 at_] E (fun u_ A_ => u_ = (match posT s L with | none => ansV 6 | some i => match L[i]? with | none => ansV 6 | some x => resX x req mer at_) ∧ SubA E A_) := by
  refine callA_of_denA ⟨Tryd.prog, 38, Tryd.f38, 68, [0, 1, 2, 3, 4, 10, 11, 12, 13], [], [], _⟩ (args := [_, _, _, _, _]) Tryd.func38 rfl (by kernel_rfl) Tryd.ntmps38 (by simp) (by kernel_rfl) ?_
  intro ν fr; have nuE := fr.nu
  have fn := rfind_v E rb p len L hE s
  cases hp : posT s L with
  | none =>
    simp only [hp] at fn
    simp (maxDischargeDepth := 16) only [argE_nil, argE_cons, ↓vmD, vmV, vmStd, Nat.reduceMul, ↓reduceIte, Nat.reduceAdd, Nat.reduceSub, Nat.reduceEqDiff, Nat.reduceLT, Nat.reduceLeDiff, reduceCtorEq, Int.reduceToNat, Int.reduceLT, Int.reduceLE, Int.reduceEq, Int.reduceNeg, Int.reduceBEq, Int.reduceBNe, String.reduceEq, forall_const, ↓vmDA, vmVA, ↓vmQA, vmR, vmRA, ↓vmSA, vmSV, tyS, nuE, SubA.skip, SubA.refl, fr.2, areDigits_v, panSum_v, rdigits_v, rsum_v, panLuhn_v, rLuhn_v, panCheck_v, rCheck_v, panCd_v, rCd_v, isPrefix_v, rMake_v, isLet_v, isId_v, isNm_v, isTm_v, rIsId_v, rIsNm_v, rDomain_v, fn, ansV]
  | some i =>
    obtain ⟨x, hx, hxs, hlt⟩ := posT_lt hp
    simp only [hp] at fn
    obtain ⟨g, cap, cur, rfl, ho, g1, hok, _, hcr, hcc⟩ := vaur_at hE hx
    have e1 : ((rb = g) = False) ∧ ((g = rb) = False) := ⟨eq_false g1, eq_false fun e => g1 e.symm⟩
    have c3 : ((i : Int) < 0) = False := eq_false (by omega)
    have c4 : ((i : Int) < (L.length : Int)) = True := eq_true (by omega)
    have n1 := fr.ne (b := rb) (by simp (maxDischargeDepth := 16) only [argE_nil, argE_cons, ↓vmD, vmV, vmStd, Nat.reduceMul, ↓reduceIte, Nat.reduceAdd, Nat.reduceSub, Nat.reduceEqDiff, Nat.reduceLT, Nat.reduceLeDiff, reduceCtorEq, Int.reduceToNat, Int.reduceLT, Int.reduceLE, Int.reduceEq, Int.reduceNeg, Int.reduceBEq, Int.reduceBNe, String.reduceEq, forall_const, ↓vmDA, vmVA, ↓vmQA, vmR, vmRA, ↓vmSA, vmSV, tyS, nuE, SubA.skip, SubA.refl, fr.2, areDigits_v, panSum_v, rdigits_v, rsum_v, panLuhn_v, rLuhn_v, panCheck_v, rCheck_v, panCd_v, rCd_v, isPrefix_v, rMake_v, isLet_v, isId_v, isNm_v, isTm_v, rIsId_v, rIsNm_v, rDomain_v])
    have n2 := fr.ne (b := g) (by simp (maxDischargeDepth := 16) only [argE_nil, argE_cons, ↓vmD, vmV, vmStd, Nat.reduceMul, ↓reduceIte, Nat.reduceAdd, Nat.reduceSub, Nat.reduceEqDiff, Nat.reduceLT, Nat.reduceLeDiff, reduceCtorEq, Int.reduceToNat, Int.reduceLT, Int.reduceLE, Int.reduceEq, Int.reduceNeg, Int.reduceBEq, Int.reduceBNe, String.reduceEq, forall_const, ↓vmDA, vmVA, ↓vmQA, vmR, vmRA, ↓vmSA, vmSV, tyS, nuE, SubA.skip, SubA.refl, fr.2, areDigits_v, panSum_v, rdigits_v, rsum_v, panLuhn_v, rLuhn_v, panCheck_v, rCheck_v, panCd_v, rCd_v, isPrefix_v, rMake_v, isLet_v, isId_v, isNm_v, isTm_v, rIsId_v, rIsNm_v, rDomain_v, e1])
    have a8 : (at_ < x.unt) = ¬ (x.unt ≤ at_) := by simp
    simp (maxDischargeDepth := 16) only [argE_nil, argE_cons, ↓vmD, vmV, vmStd, Nat.reduceMul, ↓reduceIte, Nat.reduceAdd, Nat.reduceSub, Nat.reduceEqDiff, Nat.reduceLT, Nat.reduceLeDiff, reduceCtorEq, Int.reduceToNat, Int.reduceLT, Int.reduceLE, Int.reduceEq, Int.reduceNeg, Int.reduceBEq, Int.reduceBNe, String.reduceEq, forall_const, ↓vmDA, vmVA, ↓vmQA, vmR, vmRA, ↓vmSA, vmSV, tyS, nuE, SubA.skip, SubA.refl, fr.2, areDigits_v, panSum_v, rdigits_v, rsum_v, panLuhn_v, rLuhn_v, panCheck_v, rCheck_v, panCd_v, rCd_v, isPrefix_v, rMake_v, isLet_v, isId_v, isNm_v, isTm_v, rIsId_v, rIsNm_v, rDomain_v, fn, c3, c4, e1, hcr, n1, n2, hx, tokC]
    simp only [bs_list]
    unfold resX resE
    by_cases a1 : x.st = 1
    · by_cases a2 : req = x.req
      · by_cases a3 : x.mer = [] <;> by_cases a4 : mer = x.mer <;> by_cases a5 : 0 ≤ at_ <;> by_cases a5b : at_ ≤ 1099511627776 <;> by_cases a6 : x.unt = 0 <;> by_cases a7 : x.unt ≤ at_ <;> simp [a1, a2, a3, a4, a5, a5b, a6, a7, a8] <;> omega
      · simp [a1, a2]
    · simp [a1]
theorem rresolve_w (E : AH) (rb : Nat) (p : List UInt8) (len : Nat) (L : List Tok) (hE : VauR E rb p len L) (s req mer : List UInt8) (at_ : Int) (B_ : AH) (hB_ : SubA E B_) : valA Tryd.prog 38 #[.pointer (some ⟨rb, 0, none⟩), .string (bs s), .string (bs req), .string (bs mer), .int .i64 at_] B_ = some ((match posT s L with | none => ansV 6 | some i => match L[i]? with | none => ansV 6 | some x => resX x req mer at_)) := valA_eq (pureA_at (by kernel_rfl) (rresolve_h E rb p len L hE s req mer at_) hB_)
theorem rresolve_v (E : AH) (rb : Nat) (p : List UInt8) (len : Nat) (L : List Tok) (hE : VauR E rb p len L) (s req mer : List UInt8) (at_ : Int) : valA Tryd.prog 38 #[.pointer (some ⟨rb, 0, none⟩), .string (bs s), .string (bs req), .string (bs mer), .int .i64 at_] E = some ((match posT s L with | none => ansV 6 | some i => match L[i]? with | none => ansV 6 | some x => resX x req mer at_)) := valA_eq (pureA_at (by kernel_rfl) (rresolve_h E rb p len L hE s req mer at_) (SubA.refl _))
end Go.Proofs.YtoonmogjjddeeaaDoor
