/-
Tokens: the examples of the chapter.
Conditions: none.
-/
import Derived.Test.YtoonmogjjddeeaaDoorTokC
namespace Go.Proofs.YtoonmogjjddeeaaDoor
open Go.Vm
set_option linter.unusedSimpArgs false
set_option linter.unusedVariables false
set_option maxHeartbeats 4000000
set_option maxRecDepth 20000
theorem VauP.use {E A X A1 : AH} {P : Program} {g : FuncId} {args : Array Value} {K : Value → AH → Prop} {u0 : Value} {vb len : Nat} {p : List UInt8} {L' : List Tok}
    (hc : CallA P g args (E ++ A) fun u D => u = u0 ∧ ∃ E', VauP E' vb p len L' ∧ Dis E' A ∧ SubA (E' ++ A) D ∧ ∀ x, Vm.look (E ++ A) x ≠ none → Vm.look D x ≠ none) (hs : SubA (E ++ A) A1) (hX : SubA X A1) (hd : Dis (E ++ A) X)
    (hk : ∀ E', VauP E' vb p len L' → Dis E' A → Dis (E' ++ A) X → K u0 ((E' ++ A) ++ X)) : CallA P g args A1 K :=
  CallA.use hc hs (fun v D h b hb => h.2.choose_spec.2.2.2 b hb) X hX hd (by
    rintro v D ⟨rfl, E', h1, h2, h3, h4⟩ dD
    exact ⟨E' ++ A, h3, hk E' h1 h2 (dD.subl h3)⟩)
theorem VauP.use1 {E X A1 : AH} {P : Program} {g : FuncId} {args : Array Value} {K : Value → AH → Prop} {u0 : Value} {vb len : Nat} {p : List UInt8} {L' : List Tok}
    (hc : CallA P g args E fun u D => u = u0 ∧ ∃ E', VauP E' vb p len L' ∧ SubA E' D ∧ ∀ x, Vm.look E x ≠ none → Vm.look D x ≠ none) (hs : SubA E A1) (hX : SubA X A1) (hd : Dis E X)
    (hk : ∀ E', VauP E' vb p len L' → Dis E' X → K u0 (E' ++ X)) : CallA P g args A1 K :=
  CallA.use hc hs (fun v D h b hb => h.2.choose_spec.2.2 b hb) X hX hd (by
    rintro v D ⟨rfl, E', h1, h3, h4⟩ dD
    exact ⟨E', h3, hk E' h1 (dD.subl h3)⟩)
theorem New.use {A X A1 : AH} {P : Program} {g : FuncId} {args : Array Value} {K : Value → AH → Prop} {len : Int} {p : List UInt8} (hO : mkO p 0 len = true)
    (hc : CallA P g args A fun u_ A_ => (mkO p 0 len = false ∧ u_ = .tuple #[.pointer none, .int .i64 4] ∧ SubA A A_) ∨ (mkO p 0 len = true ∧ ∃ vb E, u_ = .tuple #[.pointer (some ⟨vb, 0, none⟩), .int .i64 0] ∧ VauP E vb p len.toNat [] ∧ Dis E A ∧ SubA (E ++ A) A_)) (hs : SubA A A1) (hX : SubA X A1) (hd : Dis A X)
    (hk : ∀ vb E, VauP E vb p len.toNat [] → Dis E A → Dis (E ++ A) X → K (.tuple #[.pointer (some ⟨vb, 0, none⟩), .int .i64 0]) ((E ++ A) ++ X)) : CallA P g args A1 K :=
  CallA.use hc hs (fun v D h b hb => by
    rcases h with ⟨h, _⟩ | ⟨_, vb, E, _, _, d, h⟩
    · rw [hO] at h; cases h
    · have := (SubA.trans d.right h)
      cases hx : Vm.look A b with
      | none => exact absurd hx hb
      | some o => rw [this b o hx]; simp) X hX hd (by
    rintro v D (⟨h, _⟩ | ⟨_, vb, E, rfl, h1, d, h⟩) dD
    · rw [hO] at h; cases h
    · exact ⟨E ++ A, h, hk vb E h1 d (dD.subl h)⟩)
theorem posT_one (x : Tok) : posT x.tok [x] = some 0 := by simp [posT]
def CARD : List UInt8 := mkL [52, 48, 48, 48, 48, 48] 9 1
def TOK0 : List UInt8 := mkL [52, 56] 13 0
def WAL : List UInt8 := [119, 97, 108, 108, 101, 116]
def X0 : Tok := ⟨TOK0, CARD, WAL, [109, 45, 49], 50, 1, 10⟩
theorem awk_p : provE [52, 56] 16 [] CARD WAL [109, 45, 49] 50 10 = 0 := by decide +kernel
theorem awk_q : provE [52, 56] 16 [X0] TOK0 WAL [] 0 10 = 4 := by decide +kernel
theorem awk_pv : provV [52, 56] 16 [] CARD WAL [109, 45, 49] 50 10 = .tuple #[.string (bs TOK0), .int .i64 0] := by unfold provV; rw [awk_p]; rfl
theorem awk_pl : provL [52, 56] 16 [] CARD WAL [109, 45, 49] 50 10 = [X0] := by unfold provL; rw [awk_p]; rfl
theorem awk_qv : provV [52, 56] 16 [X0] TOK0 WAL [] 0 10 = .tuple #[.string ⟨#[]⟩, .int .i64 4] := (prov_err awk_q (by decide)).1
theorem awk_ql : provL [52, 56] 16 [X0] TOK0 WAL [] 0 10 = [X0] := (prov_err awk_q (by decide)).2
theorem awk_r1 : resX X0 WAL [109, 45, 49] 49 = .tuple #[.string (bs CARD), .int .i64 0] := by unfold resX; rw [show resE X0 WAL [109, 45, 49] 49 = 0 by decide +kernel]; rfl
theorem awk_r2 : resX X0 WAL [109, 45, 50] 49 = .tuple #[.string ⟨#[]⟩, .int .i64 18] := resX_err (by decide +kernel) (by decide)
theorem awk_r3 : resX X0 WAL [109, 45, 49] 50 = .tuple #[.string ⟨#[]⟩, .int .i64 14] := resX_err (by decide +kernel) (by decide)
theorem awk_h (A : AH) (hT : TabA A) : CallA Tryd.prog 6 #[] A (fun u_ A_ => u_ = .bool true ∧ SubA A A_) := by
  refine callA_of_denA ⟨Tryd.prog, 6, Tryd.f6, 111, [0, 1, 2, 3, 4, 5, 6, 7, 9, 10, 12, 14, 16], [7, 9, 10], [], _⟩ (args := []) Tryd.func6 rfl (by kernel_rfl) Tryd.ntmps6 (by simp) (by kernel_rfl) ?_
  intro ν fr; have nuE := fr.nu
  have m1 := fun A => show valA Tryd.prog 8 #[.string ⟨#[52, 48, 48, 48, 48, 48]⟩, .int .i64 1, .int .i64 16] A = some (.tuple #[.string (bs CARD), .int .i64 0]) from (rMake_v [52, 48, 48, 48, 48, 48] (by decide) 1 16 (by decide) A).trans (congrArg some (by unfold mkV; rw [if_pos (by decide +kernel)]; rfl))
  have m2 := fun A => show valA Tryd.prog 8 #[.string ⟨#[52, 56]⟩, .int .i64 0, .int .i64 16] A = some (.tuple #[.string (bs TOK0), .int .i64 0]) from (rMake_v [52, 56] (by decide) 0 16 (by decide) A).trans (congrArg some (by unfold mkV; rw [if_pos (by decide +kernel)]; rfl))
  simp (maxDischargeDepth := 16) only [argE_nil, argE_cons, ↓vmD, vmV, vmStd, Nat.reduceMul, ↓reduceIte, Nat.reduceAdd, Nat.reduceSub, Nat.reduceEqDiff, Nat.reduceLT, Nat.reduceLeDiff, reduceCtorEq, Int.reduceToNat, Int.reduceLT, Int.reduceLE, Int.reduceEq, Int.reduceNeg, Int.reduceBEq, Int.reduceBNe, String.reduceEq, forall_const, ↓vmDA, vmVA, ↓vmQA, vmR, vmRA, ↓vmSA, vmSV, tyS, nuE, SubA.skip, SubA.refl, fr.2, areDigits_v, panSum_v, rdigits_v, rsum_v, panLuhn_v, rLuhn_v, panCheck_v, rCheck_v, panCd_v, rCd_v, isPrefix_v, rMake_v, isLet_v, isId_v, isNm_v, isTm_v]
  refine New.use (X := []) (p := [52, 56]) (len := 16) (by decide +kernel) (newP_h A hT [52, 56] (by decide) 16) (SubA.refl _) (SubA.nil _) (fun x hx => absurd rfl hx) ?_
  intro vb E0 hE0 d0 _
  rw [List.append_nil]
  intro ν1 fr1
  have fr := fr1
  have nuE := fr.nu
  simp (maxDischargeDepth := 16) only [argE_nil, argE_cons, ↓vmD, vmV, vmStd, Nat.reduceMul, ↓reduceIte, Nat.reduceAdd, Nat.reduceSub, Nat.reduceEqDiff, Nat.reduceLT, Nat.reduceLeDiff, reduceCtorEq, Int.reduceToNat, Int.reduceLT, Int.reduceLE, Int.reduceEq, Int.reduceNeg, Int.reduceBEq, Int.reduceBNe, String.reduceEq, forall_const, ↓vmDA, vmVA, ↓vmQA, vmR, vmRA, ↓vmSA, vmSV, tyS, nuE, SubA.skip, SubA.refl, fr.2, areDigits_v, panSum_v, rdigits_v, rsum_v, panLuhn_v, rLuhn_v, panCheck_v, rCheck_v, panCd_v, rCd_v, isPrefix_v, rMake_v, isLet_v, isId_v, isNm_v, isTm_v, m1]
  refine VauP.use (X := []) (provP_h E0 A d0 hT vb [52, 56] 16 [] hE0 CARD WAL [109, 45, 49] 50 10 (by decide +kernel) (by decide) (by decide)) (SubA.refl _) (SubA.nil _) (fun x hx => absurd rfl hx) ?_
  rw [awk_pv, awk_pl]
  intro E1 hE1 d1 _
  rw [List.append_nil]
  intro ν2 fr2
  have fr := fr2
  have nuE := fr.nu
  have r1 := show ∀ B, SubA E1 B → valA Tryd.prog 11 #[.pointer (some ⟨vb, 0, none⟩), .string (bs TOK0), .string ⟨#[119, 97, 108, 108, 101, 116]⟩, .string ⟨#[109, 45, 49]⟩, .int .i64 49] B = _ from fun B hB => (resS_w E1 vb [52, 56] 16 [X0] hE1 TOK0 WAL [109, 45, 49] 49 0 X0 (posT_one X0) rfl B hB).trans (congrArg some awk_r1)
  have r2 := show ∀ B, SubA E1 B → valA Tryd.prog 11 #[.pointer (some ⟨vb, 0, none⟩), .string (bs TOK0), .string ⟨#[119, 97, 108, 108, 101, 116]⟩, .string ⟨#[109, 45, 50]⟩, .int .i64 49] B = _ from fun B hB => (resS_w E1 vb [52, 56] 16 [X0] hE1 TOK0 WAL [109, 45, 50] 49 0 X0 (posT_one X0) rfl B hB).trans (congrArg some awk_r2)
  have r3 := show ∀ B, SubA E1 B → valA Tryd.prog 11 #[.pointer (some ⟨vb, 0, none⟩), .string (bs TOK0), .string ⟨#[119, 97, 108, 108, 101, 116]⟩, .string ⟨#[109, 45, 49]⟩, .int .i64 50] B = _ from fun B hB => (resS_w E1 vb [52, 56] 16 [X0] hE1 TOK0 WAL [109, 45, 49] 50 0 X0 (posT_one X0) rfl B hB).trans (congrArg some awk_r3)
  have s1 := r1 _ (SubA.left E1 A)
  have s2 := r2 _ (SubA.left E1 A)
  have s3 := r3 _ (SubA.left E1 A)
  simp (maxDischargeDepth := 16) only [argE_nil, argE_cons, ↓vmD, vmV, vmStd, Nat.reduceMul, ↓reduceIte, Nat.reduceAdd, Nat.reduceSub, Nat.reduceEqDiff, Nat.reduceLT, Nat.reduceLeDiff, reduceCtorEq, Int.reduceToNat, Int.reduceLT, Int.reduceLE, Int.reduceEq, Int.reduceNeg, Int.reduceBEq, Int.reduceBNe, String.reduceEq, forall_const, ↓vmDA, vmVA, ↓vmQA, vmR, vmRA, ↓vmSA, vmSV, tyS, nuE, SubA.skip, SubA.refl, fr.2, areDigits_v, panSum_v, rdigits_v, rsum_v, panLuhn_v, rLuhn_v, panCheck_v, rCheck_v, panCd_v, rCd_v, isPrefix_v, rMake_v, isLet_v, isId_v, isNm_v, isTm_v, m2, s1, s2, s3]
  refine VauP.use (X := []) (provP_h E1 A d1 hT vb [52, 56] 16 [X0] hE1 TOK0 WAL [] 0 10 (by decide +kernel) (by decide) (by decide)) (SubA.refl _) (SubA.nil _) (fun x hx => absurd rfl hx) ?_
  rw [awk_qv, awk_ql]
  intro E2 hE2 d2 _
  rw [List.append_nil]
  intro ν3 fr3
  have fr := fr3
  have nuE := fr.nu
  simp (maxDischargeDepth := 16) only [argE_nil, argE_cons, ↓vmD, vmV, vmStd, Nat.reduceMul, ↓reduceIte, Nat.reduceAdd, Nat.reduceSub, Nat.reduceEqDiff, Nat.reduceLT, Nat.reduceLeDiff, reduceCtorEq, Int.reduceToNat, Int.reduceLT, Int.reduceLE, Int.reduceEq, Int.reduceNeg, Int.reduceBEq, Int.reduceBNe, String.reduceEq, forall_const, ↓vmDA, vmVA, ↓vmQA, vmR, vmRA, ↓vmSA, vmSV, tyS, nuE, SubA.skip, SubA.refl, fr.2, areDigits_v, panSum_v, rdigits_v, rsum_v, panLuhn_v, rLuhn_v, panCheck_v, rCheck_v, panCd_v, rCd_v, isPrefix_v, rMake_v, isLet_v, isId_v, isNm_v, isTm_v]
  refine VauP.use1 (suspT_h E2 vb [52, 56] 16 [X0] hE2 TOK0 0 X0 (posT_one X0) rfl rfl) (SubA.left _ _) d2.right d2 ?_
  intro E3 hE3 d3
  intro ν4 fr4
  have fr := fr4
  have nuE := fr.nu
  simp (maxDischargeDepth := 16) only [argE_nil, argE_cons, ↓vmD, vmV, vmStd, Nat.reduceMul, ↓reduceIte, Nat.reduceAdd, Nat.reduceSub, Nat.reduceEqDiff, Nat.reduceLT, Nat.reduceLeDiff, reduceCtorEq, Int.reduceToNat, Int.reduceLT, Int.reduceLE, Int.reduceEq, Int.reduceNeg, Int.reduceBEq, Int.reduceBNe, String.reduceEq, forall_const, ↓vmDA, vmVA, ↓vmQA, vmR, vmRA, ↓vmSA, vmSV, tyS, nuE, SubA.skip, SubA.refl, fr.2, areDigits_v, panSum_v, rdigits_v, rsum_v, panLuhn_v, rLuhn_v, panCheck_v, rCheck_v, panCd_v, rCd_v, isPrefix_v, rMake_v, isLet_v, isId_v, isNm_v, isTm_v]
  refine CallA.use (suspS_h E3 vb [52, 56] 16 _ hE3 TOK0 0 { X0 with st := 2 } (posT_one { X0 with st := 2 }) rfl (by decide)) (SubA.left _ _) (by
    rintro v D ⟨_, hs⟩ b hb
    cases hx : Vm.look E3 b with
    | none => exact absurd hx hb
    | some o => rw [hs b o hx]; simp) A d3.right d3 ?_
  rintro u D ⟨rfl, hs⟩ dD
  refine ⟨E3, hs, ?_⟩
  intro ν5 fr5
  have fr := fr5
  have nuE := fr.nu
  simp (maxDischargeDepth := 16) only [argE_nil, argE_cons, ↓vmD, vmV, vmStd, Nat.reduceMul, ↓reduceIte, Nat.reduceAdd, Nat.reduceSub, Nat.reduceEqDiff, Nat.reduceLT, Nat.reduceLeDiff, reduceCtorEq, Int.reduceToNat, Int.reduceLT, Int.reduceLE, Int.reduceEq, Int.reduceNeg, Int.reduceBEq, Int.reduceBNe, String.reduceEq, forall_const, ↓vmDA, vmVA, ↓vmQA, vmR, vmRA, ↓vmSA, vmSV, tyS, nuE, SubA.skip, SubA.refl, fr.2, areDigits_v, panSum_v, rdigits_v, rsum_v, panLuhn_v, rLuhn_v, panCheck_v, rCheck_v, panCd_v, rCd_v, isPrefix_v, rMake_v, isLet_v, isId_v, isNm_v, isTm_v]
  exact d3.right
theorem awk_w (A : AH) (hT : TabA A) (B_ : AH) (hB_ : SubA A B_) : valA Tryd.prog 6 #[] B_ = some (.bool true) := valA_eq (pureA_at (by kernel_rfl) (awk_h A hT) hB_)
theorem awk_v (A : AH) (hT : TabA A) : valA Tryd.prog 6 #[] A = some (.bool true) := valA_eq (pureA_at (by kernel_rfl) (awk_h A hT) (SubA.refl _))
end Go.Proofs.YtoonmogjjddeeaaDoor
