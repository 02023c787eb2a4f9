/-
Tokens: the walk of the program's Provision.
Conditions: none.
-/
import Derived.Test.YtoonmogjjddeeaaDoorTokV
namespace Go.Proofs.YtoonmogjjddeeaaDoor
open Go.Vm
set_option linter.unusedSimpArgs false
set_option linter.unusedVariables false
set_option maxHeartbeats 4000000
set_option maxRecDepth 20000
def provT (p : List UInt8) (len : Nat) (L : List Tok) (num req mer : List UInt8) (unt at_ : Int) : Tok := ⟨mkL p (len - 1 - p.length) L.length, num, req, mer, unt, 1, at_⟩
def provV (p : List UInt8) (len : Nat) (L : List Tok) (num req mer : List UInt8) (unt at_ : Int) : Value := if provE p len L num req mer unt at_ = 0 then .tuple #[.string (bs (mkL p (len - 1 - p.length) L.length)), .int .i64 0] else .tuple #[.string (bs []), .int .i64 (provE p len L num req mer unt at_)]
def provL (p : List UInt8) (len : Nat) (L : List Tok) (num req mer : List UInt8) (unt at_ : Int) : List Tok := if provE p len L num req mer unt at_ = 0 then L ++ [provT p len L num req mer unt at_] else L
theorem prov_err {p : List UInt8} {len : Nat} {L : List Tok} {num req mer : List UInt8} {unt at_ k : Int} (h : provE p len L num req mer unt at_ = k) (hk : k ≠ 0) : provV p len L num req mer unt at_ = .tuple #[.string ⟨#[]⟩, .int .i64 k] ∧ provL p len L num req mer unt at_ = L := by
  unfold provV provL
  rw [h, if_neg hk, if_neg hk]
  exact ⟨rfl, rfl⟩
theorem sc_tok (a b c d : ByteArray) (e f g : Int) : sliceCells Tryd.prog 49 1 [(0, .agg #[.string a, .string b, .string c, .string d, .int .i64 e, .int .i64 f, .int .i64 g])] = some (53, #[.string a, .string b, .string c, .string d, .int .i64 e, .int .i64 f, .int .i64 g]) := by kernel_rfl
theorem dom3 {a b c x : Nat} {o1 o2 o3 p2 p3 : Obj} {B Y : AH} (h : Vm.look ((b, p2) :: (c, p3) :: Y) x ≠ none) : Vm.look ((a, o1) :: (b, o2) :: (c, o3) :: (B ++ Y)) x ≠ none := by
  simp only [Vm.look] at h ⊢
  by_cases h1 : a = x
  · rw [if_pos h1]; simp
  · rw [if_neg h1]
    by_cases h2 : b = x
    · rw [if_pos h2]; simp
    · rw [if_neg h2] at h ⊢
      by_cases h3 : c = x
      · rw [if_pos h3]; simp
      · rw [if_neg h3] at h ⊢
        rw [look_append]
        split
        · simp
        · exact h
theorem tokOk_app {p : List UInt8} {len : Nat} {L : List Tok} {x : Tok} (h : TokOk p len L) (hl : ¬ 64 ≤ L.length) (hO : mkO p (L.length : Int) (len : Int) = true) (hx : x.tok = mkL p (len - 1 - p.length) L.length) : TokOk p len (L ++ [x]) := by
  obtain ⟨a1, a2, a3, a4, a5, a6, a7⟩ := h
  refine ⟨a1, a2, a3, a4, a5, by simp; omega, fun i y hy => ?_⟩
  by_cases hi : i < L.length
  · rw [List.getElem?_append_left hi] at hy
    exact a7 i y hy
  · have hi2 : i = L.length := by
      have := (List.getElem?_eq_some_iff.1 hy).1
      simp at this
      omega
    subst hi2
    simp at hy
    subst hy
    exact ⟨hO, hx⟩
theorem provP_h (E A : AH) (d : Dis E A) (hT : TabA A) (vb : Nat) (p : List UInt8) (len : Nat) (L : List Tok) (hE : VauP E vb p len L) (num req mer : List UInt8) (unt at_ : Int) (hnum : num.length ≤ 10000) (hreq : req.length ≤ 1000000) (hmer : mer.length ≤ 1000000) : CallA Tryd.prog 9 #[.pointer (some ⟨vb, 0, none⟩), .string (bs num), .agg #[.string (bs req), .string (bs mer), .int .i64 unt], .int .i64 at_] (E ++ A) (fun u_ A_ => u_ = provV p len L num req mer unt at_ ∧ ∃ E', VauP E' vb p len (provL p len L num req mer unt at_) ∧ Dis E' A ∧ SubA (E' ++ A) A_ ∧ ∀ x, Vm.look (E ++ A) x ≠ none → Vm.look A_ x ≠ none) := by
  refine callA_of_denA ⟨Tryd.prog, 9, Tryd.f9, 100, [0, 1, 2, 3, 6, 8, 9, 10, 11, 12, 13], [], [(13, .q false)], _⟩ (args := [_, _, _, _]) Tryd.func9 rfl (by kernel_rfl) Tryd.ntmps9 (by simp) (by kernel_rfl) ?_
  intro ν fr; have nuE := fr.nu
  have f0 := fr.2 0
  have sEA : SubA E ((ν 0, (Obj.cells #[.string (bs req), .string (bs mer), .int .i64 unt] 24)) :: (E ++ A)) := SubA.skip ((SubA.left E A).none f0) (SubA.left E A)
  have cn := fun D hD => checkNum_w E vb p len L hE num hnum D hD
  have cn0 := cn _ sEA
  have nmv := fun A => isNm_v req hreq A
  have idv := fun A => isId_v mer hmer A
  have err : ∀ k : Int, k ≠ 0 → provE p len L num req mer unt at_ = k → (∃ E', VauP E' vb p len (provL p len L num req mer unt at_) ∧ Dis E' A ∧ SubA (E' ++ A) ((ν 0, (Obj.cells #[.string (bs req), .string (bs mer), .int .i64 unt] 24)) :: (E ++ A)) ∧ ∀ x, Vm.look (E ++ A) x ≠ none → Vm.look ((ν 0, (Obj.cells #[.string (bs req), .string (bs mer), .int .i64 unt] 24)) :: (E ++ A)) x ≠ none) := fun k hk h =>
    ⟨E, by rw [(prov_err h hk).2]; exact hE, d, SubA.skip f0 (SubA.refl _), fun x hx => by
      simp only [Vm.look]
      split
      · simp
      · exact hx⟩
  by_cases h1 : chk num = 0
  rotate_left
  · have hv := prov_err (p := p) (len := len) (L := L) (num := num) (req := req) (mer := mer) (unt := unt) (at_ := at_) (k := chk num) (by unfold provE; rw [if_pos h1]) h1
    have er := err _ h1 (by unfold provE; rw [if_pos h1])
    have q : (if chk num ≠ 0 then chk num else if isV p len num = true then (4 : Int) else 0) = chk num := if_pos h1
    rw [q] at cn0
    have z : decide (chk num = 0) = false := by simpa using h1
    simp (maxDischargeDepth := 16) only [argE_nil, argE_cons, ↓vmD, vmV, vmStd, Nat.reduceMul, ↓reduceIte, Nat.reduceAdd, Nat.reduceSub, Nat.reduceEqDiff, Nat.reduceLT, Nat.reduceLeDiff, reduceCtorEq, Int.reduceToNat, Int.reduceLT, Int.reduceLE, Int.reduceEq, Int.reduceNeg, Int.reduceBEq, Int.reduceBNe, String.reduceEq, forall_const, ↓vmDA, vmVA, ↓vmQA, vmR, vmRA, ↓vmSA, vmSV, tyS, nuE, SubA.skip, SubA.refl, fr.2, areDigits_v, panSum_v, rdigits_v, rsum_v, panLuhn_v, rLuhn_v, panCheck_v, rCheck_v, panCd_v, rCd_v, isPrefix_v, rMake_v, isLet_v, isId_v, isNm_v, isTm_v, cn0, chk_bne, z, hv.1]
    exact er
  have c1 : ¬ chk num ≠ 0 := by simpa using h1
  cases h2 : isV p len num with
  | true =>
    have hE2 : provE p len L num req mer unt at_ = 4 := by unfold provE; rw [if_neg c1, if_pos h2]
    have hv := prov_err hE2 (by decide)
    have er := err _ (by decide) hE2
    rw [if_neg c1, if_pos h2] at cn0
    simp (maxDischargeDepth := 16) only [argE_nil, argE_cons, ↓vmD, vmV, vmStd, Nat.reduceMul, ↓reduceIte, Nat.reduceAdd, Nat.reduceSub, Nat.reduceEqDiff, Nat.reduceLT, Nat.reduceLeDiff, reduceCtorEq, Int.reduceToNat, Int.reduceLT, Int.reduceLE, Int.reduceEq, Int.reduceNeg, Int.reduceBEq, Int.reduceBNe, String.reduceEq, forall_const, ↓vmDA, vmVA, ↓vmQA, vmR, vmRA, ↓vmSA, vmSV, tyS, nuE, SubA.skip, SubA.refl, fr.2, areDigits_v, panSum_v, rdigits_v, rsum_v, panLuhn_v, rLuhn_v, panCheck_v, rCheck_v, panCd_v, rCd_v, isPrefix_v, rMake_v, isLet_v, isId_v, isNm_v, isTm_v, cn0, hv.1]
    exact er
  | false =>
  have c2 : ¬ isV p len num = true := by rw [h2]; simp
  rw [if_neg c1, if_neg c2] at cn0
  cases hn : nmB req with
  | false =>
    have hE3 : provE p len L num req mer unt at_ = 5 := by unfold provE; rw [if_neg c1, if_neg c2, if_pos (by unfold domN; rw [hn]; rfl)]
    have hv := prov_err hE3 (by decide)
    have er := err _ (by decide) hE3
    simp (maxDischargeDepth := 16) only [argE_nil, argE_cons, ↓vmD, vmV, vmStd, Nat.reduceMul, ↓reduceIte, Nat.reduceAdd, Nat.reduceSub, Nat.reduceEqDiff, Nat.reduceLT, Nat.reduceLeDiff, reduceCtorEq, Int.reduceToNat, Int.reduceLT, Int.reduceLE, Int.reduceEq, Int.reduceNeg, Int.reduceBEq, Int.reduceBNe, String.reduceEq, forall_const, ↓vmDA, vmVA, ↓vmQA, vmR, vmRA, ↓vmSA, vmSV, tyS, nuE, SubA.skip, SubA.refl, fr.2, areDigits_v, panSum_v, rdigits_v, rsum_v, panLuhn_v, rLuhn_v, panCheck_v, rCheck_v, panCd_v, rCd_v, isPrefix_v, rMake_v, isLet_v, isId_v, isNm_v, isTm_v, cn0, nmv, hn, hv.1]
    exact er
  | true =>
  have hD : ∀ b, (decide (mer = []) || idB mer) = b → domN req mer = b := fun b h => by unfold domN; rw [hn, h]; rfl
  have mq : mer.isEmpty = decide (mer = []) := by cases mer <;> simp
  rcases (show (mer.isEmpty = false ∧ idB mer = false) ∨ (mer.isEmpty = true ∧ True) ∨ (mer.isEmpty = false ∧ idB mer = true) by cases mer.isEmpty <;> cases idB mer <;> simp) with ⟨hme, hid⟩ | ⟨hme, hid⟩ | ⟨hme, hid⟩
  · have hE3 : provE p len L num req mer unt at_ = 5 := by unfold provE; rw [if_neg c1, if_neg c2, if_pos (hD false (by rw [← mq, hme, hid]; rfl))]
    have hv := prov_err hE3 (by decide)
    have er := err _ (by decide) hE3
    simp (maxDischargeDepth := 16) only [argE_nil, argE_cons, ↓vmD, vmV, vmStd, Nat.reduceMul, ↓reduceIte, Nat.reduceAdd, Nat.reduceSub, Nat.reduceEqDiff, Nat.reduceLT, Nat.reduceLeDiff, reduceCtorEq, Int.reduceToNat, Int.reduceLT, Int.reduceLE, Int.reduceEq, Int.reduceNeg, Int.reduceBEq, Int.reduceBNe, String.reduceEq, forall_const, ↓vmDA, vmVA, ↓vmQA, vmR, vmRA, ↓vmSA, vmSV, tyS, nuE, SubA.skip, SubA.refl, fr.2, areDigits_v, panSum_v, rdigits_v, rsum_v, panLuhn_v, rLuhn_v, panCheck_v, rCheck_v, panCd_v, rCd_v, isPrefix_v, rMake_v, isLet_v, isId_v, isNm_v, isTm_v, cn0, nmv, hn, bs_ne, hme, idv, hid, hv.1]
    exact er
  all_goals (
    have hD2 : ¬ domN req mer = false := by rw [hD true (by rw [← mq, hme]; simp [hid])]; simp
    have tmv := fun n A => isTm_v n A
    have erT : domT unt at_ = false → provV p len L num req mer unt at_ = .tuple #[.string ⟨#[]⟩, .int .i64 14] ∧ _ := fun h => 
      have hE4 : provE p len L num req mer unt at_ = 14 := by unfold provE; rw [if_neg c1, if_neg c2, if_neg hD2, if_pos h]
      ⟨(prov_err hE4 (by decide)).1, err 14 (by decide) hE4⟩
    rcases (show (¬ (0 ≤ at_ ∧ at_ ≤ 1099511627776)) ∨ ((0 ≤ at_ ∧ at_ ≤ 1099511627776) ∧ ¬ unt = 0 ∧ ¬ (0 ≤ unt ∧ unt ≤ 1099511627776)) ∨ ((0 ≤ at_ ∧ at_ ≤ 1099511627776) ∧ ¬ unt = 0 ∧ (0 ≤ unt ∧ unt ≤ 1099511627776) ∧ unt ≤ at_) ∨ (((0 ≤ at_ ∧ at_ ≤ 1099511627776) ∧ unt = 0) ∨ ((0 ≤ at_ ∧ at_ ≤ 1099511627776) ∧ ¬ unt = 0 ∧ (0 ≤ unt ∧ unt ≤ 1099511627776) ∧ ¬ unt ≤ at_)) by omega) with h5 | ⟨h5, h6, h7⟩ | ⟨h5, h6, h7, h8⟩ | hok'
    · have hv := erT (by unfold domT; simp; omega)
      simp (maxDischargeDepth := 16) only [argE_nil, argE_cons, ↓vmD, vmV, vmStd, Nat.reduceMul, ↓reduceIte, Nat.reduceAdd, Nat.reduceSub, Nat.reduceEqDiff, Nat.reduceLT, Nat.reduceLeDiff, reduceCtorEq, Int.reduceToNat, Int.reduceLT, Int.reduceLE, Int.reduceEq, Int.reduceNeg, Int.reduceBEq, Int.reduceBNe, String.reduceEq, forall_const, ↓vmDA, vmVA, ↓vmQA, vmR, vmRA, ↓vmSA, vmSV, tyS, nuE, SubA.skip, SubA.refl, fr.2, areDigits_v, panSum_v, rdigits_v, rsum_v, panLuhn_v, rLuhn_v, panCheck_v, rCheck_v, panCd_v, rCd_v, isPrefix_v, rMake_v, isLet_v, isId_v, isNm_v, isTm_v, cn0, nmv, hn, bs_ne, hme, idv, hid, tmv, h5, hv.1]
      exact hv.2
    · have hv := erT (by unfold domT; simp; omega)
      simp (maxDischargeDepth := 16) only [argE_nil, argE_cons, ↓vmD, vmV, vmStd, Nat.reduceMul, ↓reduceIte, Nat.reduceAdd, Nat.reduceSub, Nat.reduceEqDiff, Nat.reduceLT, Nat.reduceLeDiff, reduceCtorEq, Int.reduceToNat, Int.reduceLT, Int.reduceLE, Int.reduceEq, Int.reduceNeg, Int.reduceBEq, Int.reduceBNe, String.reduceEq, forall_const, ↓vmDA, vmVA, ↓vmQA, vmR, vmRA, ↓vmSA, vmSV, tyS, nuE, SubA.skip, SubA.refl, fr.2, areDigits_v, panSum_v, rdigits_v, rsum_v, panLuhn_v, rLuhn_v, panCheck_v, rCheck_v, panCd_v, rCd_v, isPrefix_v, rMake_v, isLet_v, isId_v, isNm_v, isTm_v, cn0, nmv, hn, bs_ne, hme, idv, hid, tmv, h5, h6, h7, hv.1]
      exact hv.2
    · have hv := erT (by unfold domT; simp; omega)
      simp (maxDischargeDepth := 16) only [argE_nil, argE_cons, ↓vmD, vmV, vmStd, Nat.reduceMul, ↓reduceIte, Nat.reduceAdd, Nat.reduceSub, Nat.reduceEqDiff, Nat.reduceLT, Nat.reduceLeDiff, reduceCtorEq, Int.reduceToNat, Int.reduceLT, Int.reduceLE, Int.reduceEq, Int.reduceNeg, Int.reduceBEq, Int.reduceBNe, String.reduceEq, forall_const, ↓vmDA, vmVA, ↓vmQA, vmR, vmRA, ↓vmSA, vmSV, tyS, nuE, SubA.skip, SubA.refl, fr.2, areDigits_v, panSum_v, rdigits_v, rsum_v, panLuhn_v, rLuhn_v, panCheck_v, rCheck_v, panCd_v, rCd_v, isPrefix_v, rMake_v, isLet_v, isId_v, isNm_v, isTm_v, cn0, nmv, hn, bs_ne, hme, idv, hid, tmv, h5, h6, h7, h8, hv.1]
      exact hv.2
    have hT2 : ¬ domT unt at_ = false := by unfold domT; simp; omega
    have hE6 : ∀ b, (if 64 ≤ L.length then (12 : Int) else if mkO p (L.length : Int) (len : Int) = false then 12 else 0) = b → provE p len L num req mer unt at_ = b := fun b h => by unfold provE; rw [if_neg c1, if_neg c2, if_neg hD2, if_neg hT2, h]
    obtain ⟨mr, v, es, cl, Bk, rfl, hm, ho, g1, g2, g3, hok⟩ := hE
    obtain ⟨q, vcap, rfl, hvc, hvs⟩ := ho.read tok_len
    have sA : SubA A (((vb, (Obj.cells #[.string (bs p), .int .i64 (len : Int), .slice q L.length vcap, .map (some mr)] 63)) :: (mr, .map es cl) :: Bk) ++ A) := d.right
    have hl64 := hok.2.2.2.2.2.1
    have pm := fun D hD => panMake_w A hT p (by have := hok.2.2.2.1; omega) (L.length : Int) (len : Int) (by omega) (by omega) D hD
    have pm0 := pm _ (SubA.fresh (o := (Obj.cells #[.string (bs req), .string (bs mer), .int .i64 unt] 24)) f0 sA)
    simp only [List.cons_append] at cn0 pm0 err fr ⊢
    have e1 : ((vb = mr) = False) ∧ ((mr = vb) = False) := ⟨eq_false g1, eq_false fun e => g1 e.symm⟩
    have nw := fr.ne (b := vb) (by simp (maxDischargeDepth := 16) only [argE_nil, argE_cons, ↓vmD, vmV, vmStd, Nat.reduceMul, ↓reduceIte, Nat.reduceAdd, Nat.reduceSub, Nat.reduceEqDiff, Nat.reduceLT, Nat.reduceLeDiff, reduceCtorEq, Int.reduceToNat, Int.reduceLT, Int.reduceLE, Int.reduceEq, Int.reduceNeg, Int.reduceBEq, Int.reduceBNe, String.reduceEq, forall_const, ↓vmDA, vmVA, ↓vmQA, vmR, vmRA, ↓vmSA, vmSV, tyS, nuE, areDigits_v, panSum_v, rdigits_v, rsum_v, panLuhn_v, rLuhn_v, panCheck_v, rCheck_v, panCd_v, rCd_v, isPrefix_v, rMake_v, isLet_v, isId_v, isNm_v, isTm_v])
    have nm := fr.ne (b := mr) (by simp (maxDischargeDepth := 16) only [argE_nil, argE_cons, ↓vmD, vmV, vmStd, Nat.reduceMul, ↓reduceIte, Nat.reduceAdd, Nat.reduceSub, Nat.reduceEqDiff, Nat.reduceLT, Nat.reduceLeDiff, reduceCtorEq, Int.reduceToNat, Int.reduceLT, Int.reduceLE, Int.reduceEq, Int.reduceNeg, Int.reduceBEq, Int.reduceBNe, String.reduceEq, forall_const, ↓vmDA, vmVA, ↓vmQA, vmR, vmRA, ↓vmSA, vmSV, tyS, nuE, areDigits_v, panSum_v, rdigits_v, rsum_v, panLuhn_v, rLuhn_v, panCheck_v, rCheck_v, panCd_v, rCd_v, isPrefix_v, rMake_v, isLet_v, isId_v, isNm_v, isTm_v, e1])
    by_cases h64 : 64 ≤ L.length
    · have hE5 := hE6 12 (if_pos h64)
      have hv := prov_err hE5 (by decide)
      have er := err 12 (by decide) hE5
      have q64 : ((64 : Int) ≤ (L.length : Int)) = True := eq_true (by omega)
      rcases hok' with ⟨h5, h6z⟩ | ⟨h5, h6, h7, h8⟩
      · have h6 : (unt = 0) = True := eq_true h6z
        simp (maxDischargeDepth := 16) only [argE_nil, argE_cons, ↓vmD, vmV, vmStd, Nat.reduceMul, ↓reduceIte, Nat.reduceAdd, Nat.reduceSub, Nat.reduceEqDiff, Nat.reduceLT, Nat.reduceLeDiff, reduceCtorEq, Int.reduceToNat, Int.reduceLT, Int.reduceLE, Int.reduceEq, Int.reduceNeg, Int.reduceBEq, Int.reduceBNe, String.reduceEq, forall_const, ↓vmDA, vmVA, ↓vmQA, vmR, vmRA, ↓vmSA, vmSV, tyS, nuE, SubA.skip, SubA.refl, fr.2, areDigits_v, panSum_v, rdigits_v, rsum_v, panLuhn_v, rLuhn_v, panCheck_v, rCheck_v, panCd_v, rCd_v, isPrefix_v, rMake_v, isLet_v, isId_v, isNm_v, isTm_v, cn0, nmv, hn, bs_ne, hme, idv, hid, tmv, h5, h6, q64, nw, hv.1]
        exact er
      · simp (maxDischargeDepth := 16) only [argE_nil, argE_cons, ↓vmD, vmV, vmStd, Nat.reduceMul, ↓reduceIte, Nat.reduceAdd, Nat.reduceSub, Nat.reduceEqDiff, Nat.reduceLT, Nat.reduceLeDiff, reduceCtorEq, Int.reduceToNat, Int.reduceLT, Int.reduceLE, Int.reduceEq, Int.reduceNeg, Int.reduceBEq, Int.reduceBNe, String.reduceEq, forall_const, ↓vmDA, vmVA, ↓vmQA, vmR, vmRA, ↓vmSA, vmSV, tyS, nuE, SubA.skip, SubA.refl, fr.2, areDigits_v, panSum_v, rdigits_v, rsum_v, panLuhn_v, rLuhn_v, panCheck_v, rCheck_v, panCd_v, rCd_v, isPrefix_v, rMake_v, isLet_v, isId_v, isNm_v, isTm_v, cn0, nmv, hn, bs_ne, hme, idv, hid, tmv, h5, h6, h7, h8, q64, nw, hv.1]
        exact er
    have q64 : ((64 : Int) ≤ (L.length : Int)) = False := eq_false (by omega)
    cases hO : mkO p (L.length : Int) (len : Int) with
    | false =>
      have hE5 := hE6 12 (by rw [if_neg h64, if_pos hO])
      have hv := prov_err hE5 (by decide)
      have er := err 12 (by decide) hE5
      have pv : mkV p (L.length : Int) (len : Int) = .tuple #[.string (bs []), .int .i64 4] := by unfold mkV; rw [if_neg (by rw [hO]; simp)]
      rw [pv] at pm0
      rcases hok' with ⟨h5, h6z⟩ | ⟨h5, h6, h7, h8⟩
      · have h6 : (unt = 0) = True := eq_true h6z
        simp (maxDischargeDepth := 16) only [argE_nil, argE_cons, ↓vmD, vmV, vmStd, Nat.reduceMul, ↓reduceIte, Nat.reduceAdd, Nat.reduceSub, Nat.reduceEqDiff, Nat.reduceLT, Nat.reduceLeDiff, reduceCtorEq, Int.reduceToNat, Int.reduceLT, Int.reduceLE, Int.reduceEq, Int.reduceNeg, Int.reduceBEq, Int.reduceBNe, String.reduceEq, forall_const, ↓vmDA, vmVA, ↓vmQA, vmR, vmRA, ↓vmSA, vmSV, tyS, nuE, SubA.skip, SubA.refl, fr.2, areDigits_v, panSum_v, rdigits_v, rsum_v, panLuhn_v, rLuhn_v, panCheck_v, rCheck_v, panCd_v, rCd_v, isPrefix_v, rMake_v, isLet_v, isId_v, isNm_v, isTm_v, cn0, nmv, hn, bs_ne, hme, idv, hid, tmv, h5, h6, q64, nw, pm0, hv.1]
        exact er
      · simp (maxDischargeDepth := 16) only [argE_nil, argE_cons, ↓vmD, vmV, vmStd, Nat.reduceMul, ↓reduceIte, Nat.reduceAdd, Nat.reduceSub, Nat.reduceEqDiff, Nat.reduceLT, Nat.reduceLeDiff, reduceCtorEq, Int.reduceToNat, Int.reduceLT, Int.reduceLE, Int.reduceEq, Int.reduceNeg, Int.reduceBEq, Int.reduceBNe, String.reduceEq, forall_const, ↓vmDA, vmVA, ↓vmQA, vmR, vmRA, ↓vmSA, vmSV, tyS, nuE, SubA.skip, SubA.refl, fr.2, areDigits_v, panSum_v, rdigits_v, rsum_v, panLuhn_v, rLuhn_v, panCheck_v, rCheck_v, panCd_v, rCd_v, isPrefix_v, rMake_v, isLet_v, isId_v, isNm_v, isTm_v, cn0, nmv, hn, bs_ne, hme, idv, hid, tmv, h5, h6, h7, h8, q64, nw, pm0, hv.1]
        exact er
    | true =>
    have hE5 := hE6 0 (by rw [if_neg h64, if_neg (by rw [hO]; simp)])
    have pv : mkV p (L.length : Int) (len : Int) = .tuple #[.string (bs (mkL p (len - 1 - p.length) L.length)), .int .i64 0] := by unfold mkV; rw [if_pos hO]; rfl
    rw [pv] at pm0
    have ga : Vm.look A vb = none := by
      cases hx : Vm.look A vb with
      | none => rfl
      | some o => have := d vb (by rw [hx]; simp); simp [Vm.look] at this
    have gm : Vm.look A mr = none := by
      cases hx : Vm.look A mr with
      | none => rfl
      | some o => have := d mr (by rw [hx]; simp); simp [Vm.look, e1] at this
    have dBk : Dis Bk A := d.subl (SubA.skip g2 (SubA.skip g3 (SubA.refl _)))
    have sp : Sep [[(ν 0, (Obj.cells #[.string (bs req), .string (bs mer), .int .i64 unt] 24))], [(vb, (Obj.cells #[.string (bs p), .int .i64 (len : Int), .slice q L.length vcap, .map (some mr)] 63))], [(mr, .map es cl)], Bk, A] := Sep.fresh (by simpa [cat] using fr.2 0) _ (Sep.fresh (by simp [cat, Vm.look, e1, look_append, g2, ga]) _ (Sep.fresh (by simp [cat, look_append, g3, gm]) _ (Sep.cons dBk (Sep.one A))))
    have hvv : provV p len L num req mer unt at_ = .tuple #[.string (bs (mkL p (len - 1 - p.length) L.length)), .int .i64 0] := by unfold provV; rw [hE5, if_pos rfl]
    have hLL : provL p len L num req mer unt at_ = L ++ [provT p len L num req mer unt at_] := by unfold provL; rw [hE5, if_pos rfl]
    rcases hok' with ⟨h5, h6z⟩ | ⟨h5, h6, h7, h8⟩
    · have h6 : (unt = 0) = True := eq_true h6z
      simp (maxDischargeDepth := 16) only [argE_nil, argE_cons, ↓vmD, vmV, vmStd, Nat.reduceMul, ↓reduceIte, Nat.reduceAdd, Nat.reduceSub, Nat.reduceEqDiff, Nat.reduceLT, Nat.reduceLeDiff, reduceCtorEq, Int.reduceToNat, Int.reduceLT, Int.reduceLE, Int.reduceEq, Int.reduceNeg, Int.reduceBEq, Int.reduceBNe, String.reduceEq, forall_const, ↓vmDA, vmVA, ↓vmQA, vmR, vmRA, ↓vmSA, vmSV, tyS, nuE, SubA.skip, SubA.refl, fr.2, areDigits_v, panSum_v, rdigits_v, rsum_v, panLuhn_v, rLuhn_v, panCheck_v, rCheck_v, panCd_v, rCd_v, isPrefix_v, rMake_v, isLet_v, isId_v, isNm_v, isTm_v, cn0, nmv, hn, bs_ne, hme, idv, hid, tmv, h5, h6, q64, nw, pm0]
      refine MeantA.plan [(0, 0), (1, 0), (2, 0), (3, 0), (4, 0), (5, 0), (6, 0), (7, 0), (8, 0), (9, 0), (10, 0), (11, 1), (12, 0), (13, 0), (14, 2)] [(ν 0, (Obj.cells #[.string (bs req), .string (bs mer), .int .i64 unt] 24)), (vb, (Obj.cells #[.string (bs p), .int .i64 (len : Int), .slice q L.length vcap, .map (some mr)] 63))] (SubA.left [_, _] _) (by kernel_rfl) (by kernel_rfl) (by kernel_rfl) (by kernel_rfl) (by kernel_rfl) (by kernel_rfl) ?_
      intro ν1 fr1
      have nn := fr1.ne (b := ν 0) (by simp (maxDischargeDepth := 16) only [argE_nil, argE_cons, ↓vmD, vmV, vmStd, Nat.reduceMul, ↓reduceIte, Nat.reduceAdd, Nat.reduceSub, Nat.reduceEqDiff, Nat.reduceLT, Nat.reduceLeDiff, reduceCtorEq, Int.reduceToNat, Int.reduceLT, Int.reduceLE, Int.reduceEq, Int.reduceNeg, Int.reduceBEq, Int.reduceBNe, String.reduceEq, forall_const, ↓vmDA, vmVA, ↓vmQA, vmR, vmRA, ↓vmSA, vmSV, tyS, nuE, SubA.skip, SubA.refl, fr.2, areDigits_v, panSum_v, rdigits_v, rsum_v, panLuhn_v, rLuhn_v, panCheck_v, rCheck_v, panCd_v, rCd_v, isPrefix_v, rMake_v, isLet_v, isId_v, isNm_v, isTm_v])
      have nv1 := fr1.ne (b := vb) (by simp (maxDischargeDepth := 16) only [argE_nil, argE_cons, ↓vmD, vmV, vmStd, Nat.reduceMul, ↓reduceIte, Nat.reduceAdd, Nat.reduceSub, Nat.reduceEqDiff, Nat.reduceLT, Nat.reduceLeDiff, reduceCtorEq, Int.reduceToNat, Int.reduceLT, Int.reduceLE, Int.reduceEq, Int.reduceNeg, Int.reduceBEq, Int.reduceBNe, String.reduceEq, forall_const, ↓vmDA, vmVA, ↓vmQA, vmR, vmRA, ↓vmSA, vmSV, tyS, nuE, SubA.skip, SubA.refl, fr.2, areDigits_v, panSum_v, rdigits_v, rsum_v, panLuhn_v, rLuhn_v, panCheck_v, rCheck_v, panCd_v, rCd_v, isPrefix_v, rMake_v, isLet_v, isId_v, isNm_v, isTm_v, nw])
      have nm1 := fr1.ne (b := mr) (by simp (maxDischargeDepth := 16) only [argE_nil, argE_cons, ↓vmD, vmV, vmStd, Nat.reduceMul, ↓reduceIte, Nat.reduceAdd, Nat.reduceSub, Nat.reduceEqDiff, Nat.reduceLT, Nat.reduceLeDiff, reduceCtorEq, Int.reduceToNat, Int.reduceLT, Int.reduceLE, Int.reduceEq, Int.reduceNeg, Int.reduceBEq, Int.reduceBNe, String.reduceEq, forall_const, ↓vmDA, vmVA, ↓vmQA, vmR, vmRA, ↓vmSA, vmSV, tyS, nuE, SubA.skip, SubA.refl, fr.2, areDigits_v, panSum_v, rdigits_v, rsum_v, panLuhn_v, rLuhn_v, panCheck_v, rCheck_v, panCd_v, rCd_v, isPrefix_v, rMake_v, isLet_v, isId_v, isNm_v, isTm_v, nm, e1])
      have n1' := fr1.2 0
      have fr := fr1
      have nuE := fr1.nu
      simp (maxDischargeDepth := 16) only [argE_nil, argE_cons, ↓vmD, vmV, vmStd, Nat.reduceMul, ↓reduceIte, Nat.reduceAdd, Nat.reduceSub, Nat.reduceEqDiff, Nat.reduceLT, Nat.reduceLeDiff, reduceCtorEq, Int.reduceToNat, Int.reduceLT, Int.reduceLE, Int.reduceEq, Int.reduceNeg, Int.reduceBEq, Int.reduceBNe, String.reduceEq, forall_const, ↓vmDA, vmVA, ↓vmQA, vmR, vmRA, ↓vmSA, vmSV, tyS, nuE, SubA.skip, SubA.refl, fr.2, areDigits_v, panSum_v, rdigits_v, rsum_v, panLuhn_v, rLuhn_v, panCheck_v, rCheck_v, panCd_v, rCd_v, isPrefix_v, rMake_v, isLet_v, isId_v, isNm_v, isTm_v, nw, e1, nn, nv1, nm1, sc_tok]
      have hX : SubA (cat [[(ν 0, (Obj.cells #[.string (bs req), .string (bs mer), .int .i64 unt] 24))], [(vb, (Obj.cells #[.string (bs p), .int .i64 (len : Int), .slice q L.length vcap, .map (some mr)] 63))], [(mr, .map es cl)], A]) ((ν 0, (Obj.cells #[.string (bs req), .string (bs mer), .int .i64 unt] 24)) :: (vb, (Obj.cells #[.string (bs p), .int .i64 (len : Int), .slice q L.length vcap, .map (some mr)] 63)) :: (mr, .map es cl) :: (Bk ++ A)) := sp.subs [0, 1, 2, 4] rfl
      have hBs : SubA Bk ((ν 0, (Obj.cells #[.string (bs req), .string (bs mer), .int .i64 unt] 24)) :: (vb, (Obj.cells #[.string (bs p), .int .i64 (len : Int), .slice q L.length vcap, .map (some mr)] 63)) :: (mr, .map es cl) :: (Bk ++ A)) := sp.subs [3] rfl
      have hXs : SubA (cat [[(ν 0, (Obj.cells #[.string (bs req), .string (bs mer), .int .i64 unt] 24))], [(vb, (Obj.cells #[.string (bs p), .int .i64 (len : Int), .slice q L.length vcap, .map (some mr)] 63))], [(mr, .map es cl)], A]) ((ν1 0, (Obj.cells #[.string (bs (mkL p (len - 1 - p.length) L.length)), .string (bs num), .string (bs req), .string (bs mer), .int .i64 unt, .int .i64 1, .int .i64 at_] 53)) :: (ν 0, (Obj.cells #[.string (bs req), .string (bs mer), .int .i64 unt] 24)) :: (vb, (Obj.cells #[.string (bs p), .int .i64 (len : Int), .slice q L.length vcap, .map (some mr)] 63)) :: (mr, .map es cl) :: (Bk ++ A)) := SubA.skip (hX.none n1') hX
      refine RunA.use ?_
      refine append_src (m := 1) (news := tokC (provT p len L num req mer unt at_)) (B := Bk) slc49 zro53 rfl (by decide) ho ?_ (.inr ⟨ν1 0, 0, rfl, ?_⟩) (by simp [tokC, Value.oneCell']) (by simp only [maxLen]; omega) (by omega) ?_
      · exact SubA.skip (hBs.none n1') hBs
      · simp (maxDischargeDepth := 16) only [argE_nil, argE_cons, ↓vmD, vmV, vmStd, Nat.reduceMul, ↓reduceIte, Nat.reduceAdd, Nat.reduceSub, Nat.reduceEqDiff, Nat.reduceLT, Nat.reduceLeDiff, reduceCtorEq, Int.reduceToNat, Int.reduceLT, Int.reduceLE, Int.reduceEq, Int.reduceNeg, Int.reduceBEq, Int.reduceBNe, String.reduceEq, forall_const, ↓vmDA, vmVA, ↓vmQA, vmR, vmRA, ↓vmSA, vmSV, tyS, nuE, SubA.skip, SubA.refl, fr.2, areDigits_v, panSum_v, rdigits_v, rsum_v, panLuhn_v, rLuhn_v, panCheck_v, rCheck_v, panCd_v, rCd_v, isPrefix_v, rMake_v, isLet_v, isId_v, isNm_v, isTm_v, tokC, provT]
      intro v' B' ho' hb'
      have dX : Dis Bk (cat [[(ν 0, (Obj.cells #[.string (bs req), .string (bs mer), .int .i64 unt] 24))], [(vb, (Obj.cells #[.string (bs p), .int .i64 (len : Int), .slice q L.length vcap, .map (some mr)] 63))], [(mr, .map es cl)], A]) := (sp.pick [3, 0, 1, 2, 4] rfl rfl).dis
      have dB' : Dis B' (cat [[(ν 0, (Obj.cells #[.string (bs req), .string (bs mer), .int .i64 unt] 24))], [(vb, (Obj.cells #[.string (bs p), .int .i64 (len : Int), .slice q L.length vcap, .map (some mr)] 63))], [(mr, .map es cl)], A]) := ap_dis hb' dX hXs
      have sp' : Sep [B', [(ν 0, (Obj.cells #[.string (bs req), .string (bs mer), .int .i64 unt] 24))], [(vb, (Obj.cells #[.string (bs p), .int .i64 (len : Int), .slice q L.length vcap, .map (some mr)] 63))], [(mr, .map es cl)], A] := Sep.cons dB' (sp.pick [0, 1, 2, 4] rfl rfl)
      have ow' : OwnL tokC 7 53 v' B' (L ++ [provT p len L num req mer unt at_]) := by
        unfold OwnL
        rw [List.length_append, List.flatMap_append]
        simpa using ho'
      obtain ⟨q2, vcap2, rfl, _, _⟩ := ow'.read tok_len
      have hBA : SubA (Bk ++ A) ((ν1 0, (Obj.cells #[.string (bs (mkL p (len - 1 - p.length) L.length)), .string (bs num), .string (bs req), .string (bs mer), .int .i64 unt, .int .i64 1, .int .i64 at_] 53)) :: (ν 0, (Obj.cells #[.string (bs req), .string (bs mer), .int .i64 unt] 24)) :: (vb, (Obj.cells #[.string (bs p), .int .i64 (len : Int), .slice q L.length vcap, .map (some mr)] 63)) :: (mr, .map es cl) :: (Bk ++ A)) := SubA.skip ((sp.subs [3, 4] rfl).none n1') (sp.subs [3, 4] rfl)
      have dB3 : Dis B' [(ν 0, (Obj.cells #[.string (bs req), .string (bs mer), .int .i64 unt] 24)), (vb, (Obj.cells #[.string (bs p), .int .i64 (len : Int), .slice q L.length vcap, .map (some mr)] 63)), (mr, .map es cl)] := (sp'.pick [0, 1, 2, 3] rfl rfl).dis
      have hX3 : SubA [(ν 0, (Obj.cells #[.string (bs req), .string (bs mer), .int .i64 unt] 24)), (vb, (Obj.cells #[.string (bs p), .int .i64 (len : Int), .slice q L.length vcap, .map (some mr)] 63)), (mr, .map es cl)] ((ν1 0, (Obj.cells #[.string (bs (mkL p (len - 1 - p.length) L.length)), .string (bs num), .string (bs req), .string (bs mer), .int .i64 unt, .int .i64 1, .int .i64 at_] 53)) :: (ν 0, (Obj.cells #[.string (bs req), .string (bs mer), .int .i64 unt] 24)) :: (vb, (Obj.cells #[.string (bs p), .int .i64 (len : Int), .slice q L.length vcap, .map (some mr)] 63)) :: (mr, .map es cl) :: (Bk ++ A)) := SubA.skip ((SubA.left [_, _, _] _).none n1') (SubA.left [_, _, _] _)
      have b0 : Vm.look B' (ν 0) = none := dB3 _ (by simp [Vm.look])
      have b1 : Vm.look B' vb = none := dB3 _ (by simp [Vm.look, nw])
      have b2 : Vm.look B' mr = none := dB3 _ (by simp [Vm.look, nm, e1])
      have a0 : Vm.look A (ν 0) = none := sA.none f0
      refine ⟨(ν 0, (Obj.cells #[.string (bs req), .string (bs mer), .int .i64 unt] 24)) :: (vb, (Obj.cells #[.string (bs p), .int .i64 (len : Int), .slice q L.length vcap, .map (some mr)] 63)) :: (mr, .map es cl) :: (B' ++ (Bk ++ A)), SubA.both (X := [_, _, _]) (dB3.sub hX3) (SubA.app hBA), ?_⟩
      intro ν2 fr2
      have fr := fr2
      have nuE := fr.nu
      simp (maxDischargeDepth := 16) only [argE_nil, argE_cons, ↓vmD, vmV, vmStd, Nat.reduceMul, ↓reduceIte, Nat.reduceAdd, Nat.reduceSub, Nat.reduceEqDiff, Nat.reduceLT, Nat.reduceLeDiff, reduceCtorEq, Int.reduceToNat, Int.reduceLT, Int.reduceLE, Int.reduceEq, Int.reduceNeg, Int.reduceBEq, Int.reduceBNe, String.reduceEq, forall_const, ↓vmDA, vmVA, ↓vmQA, vmR, vmRA, ↓vmSA, vmSV, tyS, nuE, SubA.skip, SubA.refl, fr.2, areDigits_v, panSum_v, rdigits_v, rsum_v, panLuhn_v, rLuhn_v, panCheck_v, rCheck_v, panCd_v, rCd_v, isPrefix_v, rMake_v, isLet_v, isId_v, isNm_v, isTm_v, e1, nw, nm]
      refine rA_update und_map und_str (by simp (maxDischargeDepth := 16) only [argE_nil, argE_cons, ↓vmD, vmV, vmStd, Nat.reduceMul, ↓reduceIte, Nat.reduceAdd, Nat.reduceSub, Nat.reduceEqDiff, Nat.reduceLT, Nat.reduceLeDiff, reduceCtorEq, Int.reduceToNat, Int.reduceLT, Int.reduceLE, Int.reduceEq, Int.reduceNeg, Int.reduceBEq, Int.reduceBNe, String.reduceEq, forall_const, ↓vmDA, vmVA, ↓vmQA, vmR, vmRA, ↓vmSA, vmSV, tyS, nuE, SubA.skip, SubA.refl, fr.2, areDigits_v, panSum_v, rdigits_v, rsum_v, panLuhn_v, rLuhn_v, panCheck_v, rCheck_v, panCd_v, rCd_v, isPrefix_v, rMake_v, isLet_v, isId_v, isNm_v, isTm_v, e1, nm]; rfl) hm ?_
      intro es' cl' hm'
      rw [upd_mapT (x := provT p len L num req mer unt at_) (tok_new hok hO) rfl] at hm'
      intro ν3 fr3
      simp only [putB, e1, nm, if_false, if_true] at fr3
      have fr := fr3
      have nuE := fr.nu
      simp (maxDischargeDepth := 16) only [argE_nil, argE_cons, ↓vmD, vmV, vmStd, Nat.reduceMul, ↓reduceIte, Nat.reduceAdd, Nat.reduceSub, Nat.reduceEqDiff, Nat.reduceLT, Nat.reduceLeDiff, reduceCtorEq, Int.reduceToNat, Int.reduceLT, Int.reduceLE, Int.reduceEq, Int.reduceNeg, Int.reduceBEq, Int.reduceBNe, String.reduceEq, forall_const, ↓vmDA, vmVA, ↓vmQA, vmR, vmRA, ↓vmSA, vmSV, tyS, nuE, SubA.skip, SubA.refl, fr.2, areDigits_v, panSum_v, rdigits_v, rsum_v, panLuhn_v, rLuhn_v, panCheck_v, rCheck_v, panCd_v, rCd_v, isPrefix_v, rMake_v, isLet_v, isId_v, isNm_v, isTm_v, e1, nw, nm, hvv]
      refine ⟨(vb, (Obj.cells #[.string (bs p), .int .i64 (len : Int), .slice q2 (L ++ [provT p len L num req mer unt at_]).length vcap2, .map (some mr)] 63)) :: (mr, .map es' cl') :: B', ?_, (show Dis ([_] ++ ([_] ++ B')) A from (Dis.one ga).app ((Dis.one gm).app (sp'.pick [0, 4] rfl rfl).dis)), ?_, fun x hx => dom3 hx⟩
      · rw [hLL]
        exact ⟨mr, _, es', cl', B', rfl, hm', ow', g1, b1, b2, tokOk_app hok h64 hO rfl⟩
      · exact SubA.skip (by simp [Vm.look, look_append, nw, nm, b0, a0]) (SubA.app (B := (vb, (Obj.cells #[.string (bs p), .int .i64 (len : Int), .slice q2 (L ++ [provT p len L num req mer unt at_]).length vcap2, .map (some mr)] 63)) :: (mr, .map es' cl') :: B') dBk.right)
    · simp (maxDischargeDepth := 16) only [argE_nil, argE_cons, ↓vmD, vmV, vmStd, Nat.reduceMul, ↓reduceIte, Nat.reduceAdd, Nat.reduceSub, Nat.reduceEqDiff, Nat.reduceLT, Nat.reduceLeDiff, reduceCtorEq, Int.reduceToNat, Int.reduceLT, Int.reduceLE, Int.reduceEq, Int.reduceNeg, Int.reduceBEq, Int.reduceBNe, String.reduceEq, forall_const, ↓vmDA, vmVA, ↓vmQA, vmR, vmRA, ↓vmSA, vmSV, tyS, nuE, SubA.skip, SubA.refl, fr.2, areDigits_v, panSum_v, rdigits_v, rsum_v, panLuhn_v, rLuhn_v, panCheck_v, rCheck_v, panCd_v, rCd_v, isPrefix_v, rMake_v, isLet_v, isId_v, isNm_v, isTm_v, cn0, nmv, hn, bs_ne, hme, idv, hid, tmv, h5, h6, h7, h8, q64, nw, pm0]
      refine MeantA.plan [(0, 0), (1, 0), (2, 0), (3, 0), (4, 0), (5, 0), (6, 0), (7, 0), (8, 0), (9, 0), (10, 0), (11, 1), (12, 0), (13, 0), (14, 2)] [(ν 0, (Obj.cells #[.string (bs req), .string (bs mer), .int .i64 unt] 24)), (vb, (Obj.cells #[.string (bs p), .int .i64 (len : Int), .slice q L.length vcap, .map (some mr)] 63))] (SubA.left [_, _] _) (by kernel_rfl) (by kernel_rfl) (by kernel_rfl) (by kernel_rfl) (by kernel_rfl) (by kernel_rfl) ?_
      intro ν1 fr1
      have nn := fr1.ne (b := ν 0) (by simp (maxDischargeDepth := 16) only [argE_nil, argE_cons, ↓vmD, vmV, vmStd, Nat.reduceMul, ↓reduceIte, Nat.reduceAdd, Nat.reduceSub, Nat.reduceEqDiff, Nat.reduceLT, Nat.reduceLeDiff, reduceCtorEq, Int.reduceToNat, Int.reduceLT, Int.reduceLE, Int.reduceEq, Int.reduceNeg, Int.reduceBEq, Int.reduceBNe, String.reduceEq, forall_const, ↓vmDA, vmVA, ↓vmQA, vmR, vmRA, ↓vmSA, vmSV, tyS, nuE, SubA.skip, SubA.refl, fr.2, areDigits_v, panSum_v, rdigits_v, rsum_v, panLuhn_v, rLuhn_v, panCheck_v, rCheck_v, panCd_v, rCd_v, isPrefix_v, rMake_v, isLet_v, isId_v, isNm_v, isTm_v])
      have nv1 := fr1.ne (b := vb) (by simp (maxDischargeDepth := 16) only [argE_nil, argE_cons, ↓vmD, vmV, vmStd, Nat.reduceMul, ↓reduceIte, Nat.reduceAdd, Nat.reduceSub, Nat.reduceEqDiff, Nat.reduceLT, Nat.reduceLeDiff, reduceCtorEq, Int.reduceToNat, Int.reduceLT, Int.reduceLE, Int.reduceEq, Int.reduceNeg, Int.reduceBEq, Int.reduceBNe, String.reduceEq, forall_const, ↓vmDA, vmVA, ↓vmQA, vmR, vmRA, ↓vmSA, vmSV, tyS, nuE, SubA.skip, SubA.refl, fr.2, areDigits_v, panSum_v, rdigits_v, rsum_v, panLuhn_v, rLuhn_v, panCheck_v, rCheck_v, panCd_v, rCd_v, isPrefix_v, rMake_v, isLet_v, isId_v, isNm_v, isTm_v, nw])
      have nm1 := fr1.ne (b := mr) (by simp (maxDischargeDepth := 16) only [argE_nil, argE_cons, ↓vmD, vmV, vmStd, Nat.reduceMul, ↓reduceIte, Nat.reduceAdd, Nat.reduceSub, Nat.reduceEqDiff, Nat.reduceLT, Nat.reduceLeDiff, reduceCtorEq, Int.reduceToNat, Int.reduceLT, Int.reduceLE, Int.reduceEq, Int.reduceNeg, Int.reduceBEq, Int.reduceBNe, String.reduceEq, forall_const, ↓vmDA, vmVA, ↓vmQA, vmR, vmRA, ↓vmSA, vmSV, tyS, nuE, SubA.skip, SubA.refl, fr.2, areDigits_v, panSum_v, rdigits_v, rsum_v, panLuhn_v, rLuhn_v, panCheck_v, rCheck_v, panCd_v, rCd_v, isPrefix_v, rMake_v, isLet_v, isId_v, isNm_v, isTm_v, nm, e1])
      have n1' := fr1.2 0
      have fr := fr1
      have nuE := fr1.nu
      simp (maxDischargeDepth := 16) only [argE_nil, argE_cons, ↓vmD, vmV, vmStd, Nat.reduceMul, ↓reduceIte, Nat.reduceAdd, Nat.reduceSub, Nat.reduceEqDiff, Nat.reduceLT, Nat.reduceLeDiff, reduceCtorEq, Int.reduceToNat, Int.reduceLT, Int.reduceLE, Int.reduceEq, Int.reduceNeg, Int.reduceBEq, Int.reduceBNe, String.reduceEq, forall_const, ↓vmDA, vmVA, ↓vmQA, vmR, vmRA, ↓vmSA, vmSV, tyS, nuE, SubA.skip, SubA.refl, fr.2, areDigits_v, panSum_v, rdigits_v, rsum_v, panLuhn_v, rLuhn_v, panCheck_v, rCheck_v, panCd_v, rCd_v, isPrefix_v, rMake_v, isLet_v, isId_v, isNm_v, isTm_v, nw, e1, nn, nv1, nm1, sc_tok]
      have hX : SubA (cat [[(ν 0, (Obj.cells #[.string (bs req), .string (bs mer), .int .i64 unt] 24))], [(vb, (Obj.cells #[.string (bs p), .int .i64 (len : Int), .slice q L.length vcap, .map (some mr)] 63))], [(mr, .map es cl)], A]) ((ν 0, (Obj.cells #[.string (bs req), .string (bs mer), .int .i64 unt] 24)) :: (vb, (Obj.cells #[.string (bs p), .int .i64 (len : Int), .slice q L.length vcap, .map (some mr)] 63)) :: (mr, .map es cl) :: (Bk ++ A)) := sp.subs [0, 1, 2, 4] rfl
      have hBs : SubA Bk ((ν 0, (Obj.cells #[.string (bs req), .string (bs mer), .int .i64 unt] 24)) :: (vb, (Obj.cells #[.string (bs p), .int .i64 (len : Int), .slice q L.length vcap, .map (some mr)] 63)) :: (mr, .map es cl) :: (Bk ++ A)) := sp.subs [3] rfl
      have hXs : SubA (cat [[(ν 0, (Obj.cells #[.string (bs req), .string (bs mer), .int .i64 unt] 24))], [(vb, (Obj.cells #[.string (bs p), .int .i64 (len : Int), .slice q L.length vcap, .map (some mr)] 63))], [(mr, .map es cl)], A]) ((ν1 0, (Obj.cells #[.string (bs (mkL p (len - 1 - p.length) L.length)), .string (bs num), .string (bs req), .string (bs mer), .int .i64 unt, .int .i64 1, .int .i64 at_] 53)) :: (ν 0, (Obj.cells #[.string (bs req), .string (bs mer), .int .i64 unt] 24)) :: (vb, (Obj.cells #[.string (bs p), .int .i64 (len : Int), .slice q L.length vcap, .map (some mr)] 63)) :: (mr, .map es cl) :: (Bk ++ A)) := SubA.skip (hX.none n1') hX
      refine RunA.use ?_
      refine append_src (m := 1) (news := tokC (provT p len L num req mer unt at_)) (B := Bk) slc49 zro53 rfl (by decide) ho ?_ (.inr ⟨ν1 0, 0, rfl, ?_⟩) (by simp [tokC, Value.oneCell']) (by simp only [maxLen]; omega) (by omega) ?_
      · exact SubA.skip (hBs.none n1') hBs
      · simp (maxDischargeDepth := 16) only [argE_nil, argE_cons, ↓vmD, vmV, vmStd, Nat.reduceMul, ↓reduceIte, Nat.reduceAdd, Nat.reduceSub, Nat.reduceEqDiff, Nat.reduceLT, Nat.reduceLeDiff, reduceCtorEq, Int.reduceToNat, Int.reduceLT, Int.reduceLE, Int.reduceEq, Int.reduceNeg, Int.reduceBEq, Int.reduceBNe, String.reduceEq, forall_const, ↓vmDA, vmVA, ↓vmQA, vmR, vmRA, ↓vmSA, vmSV, tyS, nuE, SubA.skip, SubA.refl, fr.2, areDigits_v, panSum_v, rdigits_v, rsum_v, panLuhn_v, rLuhn_v, panCheck_v, rCheck_v, panCd_v, rCd_v, isPrefix_v, rMake_v, isLet_v, isId_v, isNm_v, isTm_v, tokC, provT]
      intro v' B' ho' hb'
      have dX : Dis Bk (cat [[(ν 0, (Obj.cells #[.string (bs req), .string (bs mer), .int .i64 unt] 24))], [(vb, (Obj.cells #[.string (bs p), .int .i64 (len : Int), .slice q L.length vcap, .map (some mr)] 63))], [(mr, .map es cl)], A]) := (sp.pick [3, 0, 1, 2, 4] rfl rfl).dis
      have dB' : Dis B' (cat [[(ν 0, (Obj.cells #[.string (bs req), .string (bs mer), .int .i64 unt] 24))], [(vb, (Obj.cells #[.string (bs p), .int .i64 (len : Int), .slice q L.length vcap, .map (some mr)] 63))], [(mr, .map es cl)], A]) := ap_dis hb' dX hXs
      have sp' : Sep [B', [(ν 0, (Obj.cells #[.string (bs req), .string (bs mer), .int .i64 unt] 24))], [(vb, (Obj.cells #[.string (bs p), .int .i64 (len : Int), .slice q L.length vcap, .map (some mr)] 63))], [(mr, .map es cl)], A] := Sep.cons dB' (sp.pick [0, 1, 2, 4] rfl rfl)
      have ow' : OwnL tokC 7 53 v' B' (L ++ [provT p len L num req mer unt at_]) := by
        unfold OwnL
        rw [List.length_append, List.flatMap_append]
        simpa using ho'
      obtain ⟨q2, vcap2, rfl, _, _⟩ := ow'.read tok_len
      have hBA : SubA (Bk ++ A) ((ν1 0, (Obj.cells #[.string (bs (mkL p (len - 1 - p.length) L.length)), .string (bs num), .string (bs req), .string (bs mer), .int .i64 unt, .int .i64 1, .int .i64 at_] 53)) :: (ν 0, (Obj.cells #[.string (bs req), .string (bs mer), .int .i64 unt] 24)) :: (vb, (Obj.cells #[.string (bs p), .int .i64 (len : Int), .slice q L.length vcap, .map (some mr)] 63)) :: (mr, .map es cl) :: (Bk ++ A)) := SubA.skip ((sp.subs [3, 4] rfl).none n1') (sp.subs [3, 4] rfl)
      have dB3 : Dis B' [(ν 0, (Obj.cells #[.string (bs req), .string (bs mer), .int .i64 unt] 24)), (vb, (Obj.cells #[.string (bs p), .int .i64 (len : Int), .slice q L.length vcap, .map (some mr)] 63)), (mr, .map es cl)] := (sp'.pick [0, 1, 2, 3] rfl rfl).dis
      have hX3 : SubA [(ν 0, (Obj.cells #[.string (bs req), .string (bs mer), .int .i64 unt] 24)), (vb, (Obj.cells #[.string (bs p), .int .i64 (len : Int), .slice q L.length vcap, .map (some mr)] 63)), (mr, .map es cl)] ((ν1 0, (Obj.cells #[.string (bs (mkL p (len - 1 - p.length) L.length)), .string (bs num), .string (bs req), .string (bs mer), .int .i64 unt, .int .i64 1, .int .i64 at_] 53)) :: (ν 0, (Obj.cells #[.string (bs req), .string (bs mer), .int .i64 unt] 24)) :: (vb, (Obj.cells #[.string (bs p), .int .i64 (len : Int), .slice q L.length vcap, .map (some mr)] 63)) :: (mr, .map es cl) :: (Bk ++ A)) := SubA.skip ((SubA.left [_, _, _] _).none n1') (SubA.left [_, _, _] _)
      have b0 : Vm.look B' (ν 0) = none := dB3 _ (by simp [Vm.look])
      have b1 : Vm.look B' vb = none := dB3 _ (by simp [Vm.look, nw])
      have b2 : Vm.look B' mr = none := dB3 _ (by simp [Vm.look, nm, e1])
      have a0 : Vm.look A (ν 0) = none := sA.none f0
      refine ⟨(ν 0, (Obj.cells #[.string (bs req), .string (bs mer), .int .i64 unt] 24)) :: (vb, (Obj.cells #[.string (bs p), .int .i64 (len : Int), .slice q L.length vcap, .map (some mr)] 63)) :: (mr, .map es cl) :: (B' ++ (Bk ++ A)), SubA.both (X := [_, _, _]) (dB3.sub hX3) (SubA.app hBA), ?_⟩
      intro ν2 fr2
      have fr := fr2
      have nuE := fr.nu
      simp (maxDischargeDepth := 16) only [argE_nil, argE_cons, ↓vmD, vmV, vmStd, Nat.reduceMul, ↓reduceIte, Nat.reduceAdd, Nat.reduceSub, Nat.reduceEqDiff, Nat.reduceLT, Nat.reduceLeDiff, reduceCtorEq, Int.reduceToNat, Int.reduceLT, Int.reduceLE, Int.reduceEq, Int.reduceNeg, Int.reduceBEq, Int.reduceBNe, String.reduceEq, forall_const, ↓vmDA, vmVA, ↓vmQA, vmR, vmRA, ↓vmSA, vmSV, tyS, nuE, SubA.skip, SubA.refl, fr.2, areDigits_v, panSum_v, rdigits_v, rsum_v, panLuhn_v, rLuhn_v, panCheck_v, rCheck_v, panCd_v, rCd_v, isPrefix_v, rMake_v, isLet_v, isId_v, isNm_v, isTm_v, e1, nw, nm]
      refine rA_update und_map und_str (by simp (maxDischargeDepth := 16) only [argE_nil, argE_cons, ↓vmD, vmV, vmStd, Nat.reduceMul, ↓reduceIte, Nat.reduceAdd, Nat.reduceSub, Nat.reduceEqDiff, Nat.reduceLT, Nat.reduceLeDiff, reduceCtorEq, Int.reduceToNat, Int.reduceLT, Int.reduceLE, Int.reduceEq, Int.reduceNeg, Int.reduceBEq, Int.reduceBNe, String.reduceEq, forall_const, ↓vmDA, vmVA, ↓vmQA, vmR, vmRA, ↓vmSA, vmSV, tyS, nuE, SubA.skip, SubA.refl, fr.2, areDigits_v, panSum_v, rdigits_v, rsum_v, panLuhn_v, rLuhn_v, panCheck_v, rCheck_v, panCd_v, rCd_v, isPrefix_v, rMake_v, isLet_v, isId_v, isNm_v, isTm_v, e1, nm]; rfl) hm ?_
      intro es' cl' hm'
      rw [upd_mapT (x := provT p len L num req mer unt at_) (tok_new hok hO) rfl] at hm'
      intro ν3 fr3
      simp only [putB, e1, nm, if_false, if_true] at fr3
      have fr := fr3
      have nuE := fr.nu
      simp (maxDischargeDepth := 16) only [argE_nil, argE_cons, ↓vmD, vmV, vmStd, Nat.reduceMul, ↓reduceIte, Nat.reduceAdd, Nat.reduceSub, Nat.reduceEqDiff, Nat.reduceLT, Nat.reduceLeDiff, reduceCtorEq, Int.reduceToNat, Int.reduceLT, Int.reduceLE, Int.reduceEq, Int.reduceNeg, Int.reduceBEq, Int.reduceBNe, String.reduceEq, forall_const, ↓vmDA, vmVA, ↓vmQA, vmR, vmRA, ↓vmSA, vmSV, tyS, nuE, SubA.skip, SubA.refl, fr.2, areDigits_v, panSum_v, rdigits_v, rsum_v, panLuhn_v, rLuhn_v, panCheck_v, rCheck_v, panCd_v, rCd_v, isPrefix_v, rMake_v, isLet_v, isId_v, isNm_v, isTm_v, e1, nw, nm, hvv]
      refine ⟨(vb, (Obj.cells #[.string (bs p), .int .i64 (len : Int), .slice q2 (L ++ [provT p len L num req mer unt at_]).length vcap2, .map (some mr)] 63)) :: (mr, .map es' cl') :: B', ?_, (show Dis ([_] ++ ([_] ++ B')) A from (Dis.one ga).app ((Dis.one gm).app (sp'.pick [0, 4] rfl rfl).dis)), ?_, fun x hx => dom3 hx⟩
      · rw [hLL]
        exact ⟨mr, _, es', cl', B', rfl, hm', ow', g1, b1, b2, tokOk_app hok h64 hO rfl⟩
      · exact SubA.skip (by simp [Vm.look, look_append, nw, nm, b0, a0]) (SubA.app (B := (vb, (Obj.cells #[.string (bs p), .int .i64 (len : Int), .slice q2 (L ++ [provT p len L num req mer unt at_]).length vcap2, .map (some mr)] 63)) :: (mr, .map es' cl') :: B') dBk.right)
  )

end Go.Proofs.YtoonmogjjddeeaaDoor
