/-
The reference parser: operands; ParseExpr.
Conditions: none.
-/
import Derived.Test.YtgglccpckhpocaaGreatDoorQl
set_option linter.unusedSimpArgs false
set_option linter.unusedVariables false
namespace Go.Proofs.YtgglccpckhpocaaGreatDoor
open Go.Vm
set_option maxHeartbeats 4000000
set_option maxRecDepth 20000
theorem vbQm : type_of% (An @slIndexByte_v (An @indexByte_v (An @indexRune_v (An @containsRune_v (An @slHasPrefix_v (An @hasPrefix_v (An @classOf_v (An @isWordByte_v (An @letter_v (An @digit_v (An @wordAt_v (An @rword_v (An @skip_v (An @rskip_v (An @number_v (An @rnumber_v (An @literal_v (An @rtext_v (An @lexemeAt_v (An @rlexeme_v (An @isName_v (An @risName_v (An @resV_v (An @soft_usd (An @soft_ust (An @cnvN_pu (An @cnvN_up (An @eqS_pp (An @isNameV_v (An @isLitV_v (An @hasF_v (An @lvV_v (An @syV_v (An @wordV_v (An @nameV_v @rresV_v))))))))))))))))))))))))))))))))))) := ⟨@slIndexByte_v, @indexByte_v, @indexRune_v, @containsRune_v, @slHasPrefix_v, @hasPrefix_v, @classOf_v, @isWordByte_v, @letter_v, @digit_v, @wordAt_v, @rword_v, @skip_v, @rskip_v, @number_v, @rnumber_v, @literal_v, @rtext_v, @lexemeAt_v, @rlexeme_v, @isName_v, @risName_v, @resV_v, @soft_usd, @soft_ust, @cnvN_pu, @cnvN_up, @eqS_pp, @isNameV_v, @isLitV_v, @hasF_v, @lvV_v, @syV_v, @wordV_v, @nameV_v, @rresV_v⟩
theorem wnE_zero {e e' : Int} {c : Bool} (h : wnE e c = e') (h0 : e' = 0) : e = 0 := by
  unfold wnE at h
  split at h
  · assumption
  · rw [h]; exact h0
theorem ruses_h (rb : Nat) (lp : Option Addr) (lcap : Nat) (L : List LR) (A : AH) (hp : RsOk rb lp L A) (i : Nat) (hi : i < L.length) (w op : Int) : CallA Tryz.prog 134 #[.pointer (some ⟨rb, 0, none⟩), .int .i64 op] (RS rb lp lcap L i 0 w A) (fun u_ A_ => ∃ nm n i' e' w', u_ = xrV ⟨op, nm, eB, n, none, 0, 0⟩ ∧ i' < L.length ∧ SubA (RS rb lp lcap L i' e' w' A) A_ ∧ ((e' = 0 ∧ w' = w ∧ usX L i = (0, i', nm, n)) ∨ (e' = 2 ∧ ∃ (jj : Nat) (z : LR), usX L i = (2, jj, eB, 0) ∧ L[jj]? = some z ∧ w' = (z.a : Int)))) := by
  refine callA_of_denA ⟨Tryz.prog, 134, Tryz.f134, 21, [0, 1, 4, 5], ⟨[30, 31, 35], none⟩, [], _⟩ rfl (args := [_, _]) Tryz.func134 rfl (by kernel_rfl) Tryz.ntmps134 (by simp) (by kernel_rfl) ?_
  intro ν fr; have nuE := fr.nu
  have f0 := fr.2 0
  have f1 := fr.2 1
  have n01 : (ν 1 = ν 0) = False := by simp [nuE]
  simp (maxDischargeDepth := 16) only [evN, ↓evP, simprocAttr, forall_const, nuE, fr.2, vbQm, ↓sA_usd, ↓sA_ust]
  have dst_ : ((ν 0 = ν 1) = False) ∧ ((ν 1 = ν 0) = False) := (by simp [nuE]); generalize ν 0 = n4 at dst_  f0 f1 n01 ⊢; generalize ν 1 = n5 at dst_  f0 f1 n01 ⊢
  clear nuE fr
  have d45 := dst_
  clear dst_
  obtain ⟨i0, e0, w0, ei, ee, ew, hi0, hS0⟩ : ∃ i0 e0 w0, i = i0 ∧ (0 : Int) = e0 ∧ w = w0 ∧ i0 < L.length ∧ ((e0 = 0 ∧ w0 = w ∧ i0 = i + 0) ∨ (e0 = 2 ∧ ∃ (jj : Nat) (z : LR), usX L i = (2, jj, eB, 0) ∧ L[jj]? = some z ∧ w0 = (z.a : Int))) := ⟨_, _, _, rfl, rfl, rfl, hi, .inl ⟨rfl, rfl, rfl⟩⟩
  have g4 : Vm.look (RS rb lp lcap L i0 e0 w0 A) n4 = none := by rw [← ei, ← ee, ← ew]; exact f0
  have g5 : Vm.look (RS rb lp lcap L i0 e0 w0 A) n5 = none := by rw [← ei, ← ee, ← ew]; exact f1
  rw [show RS rb lp lcap L i 0 w A = RS rb lp lcap L i0 e0 w0 A by rw [← ei, ← ee, ← ew]]
  clear f0 f1 ei ee ew
  obtain ⟨x0, hx0, hl0⟩ := at_of hi0
  refine CallA.ownX (Y := [(n5, _), (n4, _)]) (rwant_h rb lp lcap L A hp i0 x0 hx0 e0 w0 4 ⟨#[40]⟩) (dis2 (rs_none g5) (rs_none g4)) ?_
  rintro v D ⟨rfl, hD⟩ dD
  refine ⟨_, hD, ?_⟩
  clear hD dD D
  obtain ⟨i1, e1, w1, ei, ee, ew, hi1, hS1⟩ : ∃ i' e' w', wnI e0 (isL x0 4 ⟨#[40]⟩) i0 = i' ∧ wnE e0 (isL x0 4 ⟨#[40]⟩) = e' ∧ wnW e0 w0 (isL x0 4 ⟨#[40]⟩) x0 = w' ∧ i' < L.length ∧ ((e' = 0 ∧ w' = w ∧ i' = i + 1 ∧ isL (lxA L i) 4 ⟨#[40]⟩ = true) ∨ (e' = 2 ∧ ∃ (jj : Nat) (z : LR), usX L i = (2, jj, eB, 0) ∧ L[jj]? = some z ∧ w' = (z.a : Int))) := by
    refine ⟨_, _, _, rfl, rfl, rfl, ?_⟩
    rcases hS0 with ⟨he, hw, hii⟩ | ⟨he, hbad⟩
    · subst he
      have hlx : lxA L i = x0 := by rw [← hl0, hii]; rfl
      cases hc : isL x0 4 ⟨#[40]⟩ with
      | true => exact ⟨by simp only [wnI, and_self, if_true]; exact nx_r hp.he hx0 (by rw [isL_k hc]; decide), .inl ⟨rfl, by simp only [wnW, if_true]; exact hw, by simp only [wnI, and_self, if_true]; omega, by rw [hlx]; exact hc⟩⟩
      | false =>
        have hc' : isL (lxA L i) 4 ⟨#[40]⟩ = false := by rw [hlx]; exact hc
        exact ⟨by simp only [wnI, Bool.false_eq_true, and_false, if_false]; exact hi0, .inr ⟨rfl, i0, x0, by rw [hii]; unfold usX; rw [if_pos hc']; rfl, hx0, by simp only [wnW, if_true, Bool.false_eq_true, if_false]⟩⟩
    · have hne : ¬ e0 = 0 := by omega
      exact ⟨by simp only [wnI, hne, false_and, if_false]; exact hi0, .inr ⟨by simp only [wnE, if_neg hne]; exact he, by simp only [wnW, if_neg hne]; exact hbad⟩⟩
  rw [ei, ee, ew]
  clear ei ee ew
  simp only [RS, rpB, List.cons_append, List.nil_append]
  intro ν fr; have nuE := And.intro (fr.mem (b := n5) (by simp)) (And.intro (fr.mem (b := n4) (by simp)) (fr.nu))
  simp (maxDischargeDepth := 16) only [evN, ↓evP, simprocAttr, forall_const, nuE, fr.2, vbQm, ↓sA_usd, ↓sA_ust, d45]
  clear nuE fr
  obtain ⟨x1, hx1, hl1⟩ := at_of hi1
  refine CallA.ownX (Y := [(n5, _), (n4, _)]) (rname_h rb lp lcap L A hp i1 x1 hx1 e1 w1) (dis2 (rs_none g5) (rs_none g4)) ?_
  rintro v D ⟨rfl, hD⟩ dD
  refine ⟨_, hD, ?_⟩
  clear hD dD D
  obtain ⟨i2, e2, w2, ei, ee, ew, hi2, hS2⟩ : ∃ i' e' w', wnI e1 (nmB x1) i1 = i' ∧ wnE e1 (nmB x1) = e' ∧ wnW e1 w1 (nmB x1) x1 = w' ∧ i' < L.length ∧ ((e' = 0 ∧ w' = w ∧ i' = i + 2 ∧ isL (lxA L i) 4 ⟨#[40]⟩ = true ∧ nmB (lxA L (i + 1)) = true) ∨ (e' = 2 ∧ ∃ (jj : Nat) (z : LR), usX L i = (2, jj, eB, 0) ∧ L[jj]? = some z ∧ w' = (z.a : Int))) := by
    refine ⟨_, _, _, rfl, rfl, rfl, ?_⟩
    rcases hS1 with ⟨he, hw, hii, k0⟩ | ⟨he, hbad⟩
    · subst he
      have hlx : lxA L (i + 1) = x1 := by rw [← hl1, hii]
      cases hc : nmB x1 with
      | true => exact ⟨by simp only [wnI, and_self, if_true]; exact nx_r hp.he hx1 (nmB_k hc), .inl ⟨rfl, by simp only [wnW, if_true]; exact hw, by simp only [wnI, and_self, if_true]; omega, k0, by rw [hlx]; exact hc⟩⟩
      | false =>
        have hc' : nmB (lxA L (i + 1)) = false := by rw [hlx]; exact hc
        exact ⟨by simp only [wnI, Bool.false_eq_true, and_false, if_false]; exact hi1, .inr ⟨rfl, i1, x1, by rw [hii]; unfold usX; rw [if_neg (by rw [k0]; decide), if_pos hc'], hx1, by simp only [wnW, if_true, Bool.false_eq_true, if_false]⟩⟩
    · have hne : ¬ e1 = 0 := by omega
      exact ⟨by simp only [wnI, hne, false_and, if_false]; exact hi1, .inr ⟨by simp only [wnE, if_neg hne]; exact he, by simp only [wnW, if_neg hne]; exact hbad⟩⟩
  obtain ⟨nm, enm, hnm⟩ : ∃ nm, (if e1 = 0 ∧ nmB x1 = true then x1.t else eB) = nm ∧ (e1 = 0 → i1 = i + 1 → nmB (lxA L (i + 1)) = true → nm = (lxA L (i + 1)).t) := ⟨_, rfl, fun h1 h2 h3 => by rw [show lxA L (i + 1) = x1 by rw [← hl1, h2]] at h3 ⊢; rw [if_pos ⟨h1, h3⟩]⟩
  have hnm' : e2 = 0 → nm = (lxA L (i + 1)).t := fun h => by
    rcases hS2 with ⟨h2, _, _, k0, k1⟩ | ⟨h2, _⟩
    · rcases hS1 with ⟨h1, _, h3, _⟩ | ⟨h1, _⟩
      · exact hnm h1 h3 k1
      · simp only [wnE] at ee; rw [if_neg (by omega)] at ee; omega
    · omega
  rw [enm]
  clear hnm enm
  rw [ei, ee, ew]
  clear ei ee ew
  simp only [RS, rpB, List.cons_append, List.nil_append]
  intro ν fr; have nuE := And.intro (fr.mem (b := n5) (by simp)) (And.intro (fr.mem (b := n4) (by simp)) (fr.nu))
  simp (maxDischargeDepth := 16) only [evN, ↓evP, simprocAttr, forall_const, nuE, fr.2, vbQm, ↓sA_usd, ↓sA_ust, d45]
  clear nuE fr
  obtain ⟨x2, hx2, hl2⟩ := at_of hi2
  refine CallA.ownX (Y := [(n5, _), (n4, _)]) (rwant_h rb lp lcap L A hp i2 x2 hx2 e2 w2 4 ⟨#[44]⟩) (dis2 (rs_none g5) (rs_none g4)) ?_
  rintro v D ⟨rfl, hD⟩ dD
  refine ⟨_, hD, ?_⟩
  clear hD dD D
  obtain ⟨i3, e3, w3, ei, ee, ew, hi3, hS3⟩ : ∃ i' e' w', wnI e2 (isL x2 4 ⟨#[44]⟩) i2 = i' ∧ wnE e2 (isL x2 4 ⟨#[44]⟩) = e' ∧ wnW e2 w2 (isL x2 4 ⟨#[44]⟩) x2 = w' ∧ i' < L.length ∧ ((e' = 0 ∧ w' = w ∧ i' = i + 3 ∧ isL (lxA L i) 4 ⟨#[40]⟩ = true ∧ nmB (lxA L (i + 1)) = true ∧ isL (lxA L (i + 2)) 4 ⟨#[44]⟩ = true) ∨ (e' = 2 ∧ ∃ (jj : Nat) (z : LR), usX L i = (2, jj, eB, 0) ∧ L[jj]? = some z ∧ w' = (z.a : Int))) := by
    refine ⟨_, _, _, rfl, rfl, rfl, ?_⟩
    rcases hS2 with ⟨he, hw, hii, k0, k1⟩ | ⟨he, hbad⟩
    · subst he
      have hlx : lxA L (i + 2) = x2 := by rw [← hl2, hii]
      cases hc : isL x2 4 ⟨#[44]⟩ with
      | true => exact ⟨by simp only [wnI, and_self, if_true]; exact nx_r hp.he hx2 (by rw [isL_k hc]; decide), .inl ⟨rfl, by simp only [wnW, if_true]; exact hw, by simp only [wnI, and_self, if_true]; omega, k0, k1, by rw [hlx]; exact hc⟩⟩
      | false =>
        have hc' : isL (lxA L (i + 2)) 4 ⟨#[44]⟩ = false := by rw [hlx]; exact hc
        exact ⟨by simp only [wnI, Bool.false_eq_true, and_false, if_false]; exact hi2, .inr ⟨rfl, i2, x2, by rw [hii]; unfold usX; rw [if_neg (by rw [k0]; decide), if_neg (by rw [k1]; decide), if_pos hc'], hx2, by simp only [wnW, if_true, Bool.false_eq_true, if_false]⟩⟩
    · have hne : ¬ e2 = 0 := by omega
      exact ⟨by simp only [wnI, hne, false_and, if_false]; exact hi2, .inr ⟨by simp only [wnE, if_neg hne]; exact he, by simp only [wnW, if_neg hne]; exact hbad⟩⟩
  have h23' : e3 = 0 → e2 = 0 := fun h => wnE_zero ee h
  rw [ei, ee, ew]
  clear ei ee ew
  simp only [RS, rpB, List.cons_append, List.nil_append]
  intro ν fr; have nuE := And.intro (fr.mem (b := n5) (by simp)) (And.intro (fr.mem (b := n4) (by simp)) (fr.nu))
  simp (maxDischargeDepth := 16) only [evN, ↓evP, simprocAttr, forall_const, nuE, fr.2, vbQm, ↓sA_usd, ↓sA_ust, d45]
  clear nuE fr
  obtain ⟨x3, hx3, hl3⟩ := at_of hi3
  refine CallA.ownX (Y := [(n5, _), (n4, _)]) (rnum_h rb lp lcap L A hp i3 x3 hx3 e3 w3 9007199254740992) (dis2 (rs_none g5) (rs_none g4)) ?_
  rintro v D ⟨rfl, hD⟩ dD
  refine ⟨_, hD, ?_⟩
  clear hD dD D
  obtain ⟨i4, e4, w4, ei, ee, ew, hi4, hS4⟩ : ∃ i' e' w', wnI e3 (nuB x3 9007199254740992) i3 = i' ∧ wnE e3 (nuB x3 9007199254740992) = e' ∧ wnW e3 w3 (nuB x3 9007199254740992) x3 = w' ∧ i' < L.length ∧ ((e' = 0 ∧ w' = w ∧ i' = i + 4 ∧ isL (lxA L i) 4 ⟨#[40]⟩ = true ∧ nmB (lxA L (i + 1)) = true ∧ isL (lxA L (i + 2)) 4 ⟨#[44]⟩ = true ∧ nuB (lxA L (i + 3)) 9007199254740992 = true) ∨ (e' = 2 ∧ ∃ (jj : Nat) (z : LR), usX L i = (2, jj, eB, 0) ∧ L[jj]? = some z ∧ w' = (z.a : Int))) := by
    refine ⟨_, _, _, rfl, rfl, rfl, ?_⟩
    rcases hS3 with ⟨he, hw, hii, k0, k1, k2⟩ | ⟨he, hbad⟩
    · subst he
      have hlx : lxA L (i + 3) = x3 := by rw [← hl3, hii]
      cases hc : nuB x3 9007199254740992 with
      | true => exact ⟨by simp only [wnI, and_self, if_true]; exact nx_r hp.he hx3 (nuB_k hc), .inl ⟨rfl, by simp only [wnW, if_true]; exact hw, by simp only [wnI, and_self, if_true]; omega, k0, k1, k2, by rw [hlx]; exact hc⟩⟩
      | false =>
        have hc' : nuB (lxA L (i + 3)) 9007199254740992 = false := by rw [hlx]; exact hc
        exact ⟨by simp only [wnI, Bool.false_eq_true, and_false, if_false]; exact hi3, .inr ⟨rfl, i3, x3, by rw [hii]; unfold usX; rw [if_neg (by rw [k0]; decide), if_neg (by rw [k1]; decide), if_neg (by rw [k2]; decide), if_pos hc'], hx3, by simp only [wnW, if_true, Bool.false_eq_true, if_false]⟩⟩
    · have hne : ¬ e3 = 0 := by omega
      exact ⟨by simp only [wnI, hne, false_and, if_false]; exact hi3, .inr ⟨by simp only [wnE, if_neg hne]; exact he, by simp only [wnW, if_neg hne]; exact hbad⟩⟩
  obtain ⟨nn, enn, hnn⟩ : ∃ nn, (if e3 = 0 ∧ nuB x3 9007199254740992 = true then x3.n else 0) = nn ∧ (e3 = 0 → i3 = i + 3 → nuB (lxA L (i + 3)) 9007199254740992 = true → nn = (lxA L (i + 3)).n) := ⟨_, rfl, fun h1 h2 h3 => by rw [show lxA L (i + 3) = x3 by rw [← hl3, h2]] at h3 ⊢; rw [if_pos ⟨h1, h3⟩]⟩
  have hnn' : e4 = 0 → nn = (lxA L (i + 3)).n := fun h => by
    rcases hS4 with ⟨h2, _, _, k0, k1, k2, k3⟩ | ⟨h2, _⟩
    · rcases hS3 with ⟨h1, _, h3, _⟩ | ⟨h1, _⟩
      · exact hnn h1 h3 k3
      · simp only [wnE] at ee; rw [if_neg (by omega)] at ee; omega
    · omega
  have h23 : e4 = 0 → e2 = 0 := fun h => by
    rcases hS4 with ⟨h2, _⟩ | ⟨h2, _⟩
    · exact h23' (wnE_zero ee h)
    · omega
  rw [enn]
  clear hnn enn
  rw [ei, ee, ew]
  clear ei ee ew
  simp only [RS, rpB, List.cons_append, List.nil_append]
  intro ν fr; have nuE := And.intro (fr.mem (b := n5) (by simp)) (And.intro (fr.mem (b := n4) (by simp)) (fr.nu))
  simp (maxDischargeDepth := 16) only [evN, ↓evP, simprocAttr, forall_const, nuE, fr.2, vbQm, ↓sA_usd, ↓sA_ust, d45]
  clear nuE fr
  obtain ⟨x4, hx4, hl4⟩ := at_of hi4
  refine CallA.ownX (Y := [(n5, _), (n4, _)]) (rwant_h rb lp lcap L A hp i4 x4 hx4 e4 w4 4 ⟨#[41]⟩) (dis2 (rs_none g5) (rs_none g4)) ?_
  rintro v D ⟨rfl, hD⟩ dD
  refine ⟨_, hD, ?_⟩
  clear hD dD D
  obtain ⟨i5, e5, w5, ei, ee, ew, hi5, hS5⟩ : ∃ i' e' w', wnI e4 (isL x4 4 ⟨#[41]⟩) i4 = i' ∧ wnE e4 (isL x4 4 ⟨#[41]⟩) = e' ∧ wnW e4 w4 (isL x4 4 ⟨#[41]⟩) x4 = w' ∧ i' < L.length ∧ ((e' = 0 ∧ w' = w ∧ i' = i + 5 ∧ isL (lxA L i) 4 ⟨#[40]⟩ = true ∧ nmB (lxA L (i + 1)) = true ∧ isL (lxA L (i + 2)) 4 ⟨#[44]⟩ = true ∧ nuB (lxA L (i + 3)) 9007199254740992 = true ∧ isL (lxA L (i + 4)) 4 ⟨#[41]⟩ = true) ∨ (e' = 2 ∧ ∃ (jj : Nat) (z : LR), usX L i = (2, jj, eB, 0) ∧ L[jj]? = some z ∧ w' = (z.a : Int))) := by
    refine ⟨_, _, _, rfl, rfl, rfl, ?_⟩
    rcases hS4 with ⟨he, hw, hii, k0, k1, k2, k3⟩ | ⟨he, hbad⟩
    · subst he
      have hlx : lxA L (i + 4) = x4 := by rw [← hl4, hii]
      cases hc : isL x4 4 ⟨#[41]⟩ with
      | true => exact ⟨by simp only [wnI, and_self, if_true]; exact nx_r hp.he hx4 (by rw [isL_k hc]; decide), .inl ⟨rfl, by simp only [wnW, if_true]; exact hw, by simp only [wnI, and_self, if_true]; omega, k0, k1, k2, k3, by rw [hlx]; exact hc⟩⟩
      | false =>
        have hc' : isL (lxA L (i + 4)) 4 ⟨#[41]⟩ = false := by rw [hlx]; exact hc
        exact ⟨by simp only [wnI, Bool.false_eq_true, and_false, if_false]; exact hi4, .inr ⟨rfl, i4, x4, by rw [hii]; unfold usX; rw [if_neg (by rw [k0]; decide), if_neg (by rw [k1]; decide), if_neg (by rw [k2]; decide), if_neg (by rw [k3]; decide), if_pos hc'], hx4, by simp only [wnW, if_true, Bool.false_eq_true, if_false]⟩⟩
    · have hne : ¬ e4 = 0 := by omega
      exact ⟨by simp only [wnI, hne, false_and, if_false]; exact hi4, .inr ⟨by simp only [wnE, if_neg hne]; exact he, by simp only [wnW, if_neg hne]; exact hbad⟩⟩
  have h44 : e5 = 0 → e4 = 0 := fun h => wnE_zero ee h
  rw [ei, ee, ew]
  clear ei ee ew
  simp only [RS, rpB, List.cons_append, List.nil_append]
  intro ν fr; have nuE := And.intro (fr.mem (b := n5) (by simp)) (And.intro (fr.mem (b := n4) (by simp)) (fr.nu))
  simp (maxDischargeDepth := 16) only [evN, ↓evP, simprocAttr, forall_const, nuE, fr.2, vbQm, ↓sA_usd, ↓sA_ust, d45]
  clear nuE fr
  refine ⟨nm, nn, i5, e5, w5, rfl, hi5, SubA.fresh (look_c1 (by simp [d45]) (rs_none g5)) (SubA.fresh (rs_none g4) (SubA.refl _)), ?_⟩
  rcases hS5 with ⟨he, hw, hii, k0, k1, k2, k3, k4⟩ | ⟨he, hbad⟩
  · refine .inl ⟨he, hw, ?_⟩
    rw [hnm' (h23 (h44 he)), hnn' (h44 he), hii]
    unfold usX
    rw [if_neg (by rw [k0]; decide), if_neg (by rw [k1]; decide), if_neg (by rw [k2]; decide), if_neg (by rw [k3]; decide), if_neg (by rw [k4]; decide)]
  · exact .inr ⟨he, hbad⟩
end Go.Proofs.YtgglccpckhpocaaGreatDoor
namespace Go.Proofs.YtgglccpckhpocaaGreatDoor
open Go.Vm
set_option maxHeartbeats 4000000
set_option maxRecDepth 20000
theorem isL_nk {x : LR} {k k' : Int} {t : ByteArray} (h : x.k = k) (hk : k ≠ k') : isL x k' t = false := by
  unfold isL
  rw [h]
  simp [hk]
theorem runary_h (rb : Nat) (lp : Option Addr) (lcap : Nat) (L : List LR) (A : AH) (hp : RsOk rb lp L A) (i : Nat) (hi : i < L.length) (w : Int) (hun : ∀ k A' w, i < k → k < L.length → RsOk rb lp L A' → LvR 127 5 rb lp lcap L A' k w) (hex : ∀ k A' w, i < k → k < L.length → RsOk rb lp L A' → LvR 32 0 rb lp lcap L A' k w) : CallA Tryz.prog 127 #[.pointer (some ⟨rb, 0, none⟩)] (RS rb lp lcap L i 0 w A) (fun u_ A_ => RvP rb lp lcap L A w (Pr L (.lv 5) i) u_ A_) := by
  refine callA_of_denA ⟨Tryz.prog, 127, Tryz.f127, 84, [0, 2, 3, 4], ⟨[127, 32, 34, 30, 134, 31], none⟩, [(3, .p [(0, 0), (1, 0), (2, 0), (3, 0), (4, 0), (5, 0), (6, 0), (7, 0), (8, 0), (9, 0), (10, 1), (11, 2)])], _⟩ rfl (args := [_]) Tryz.func127 rfl (by kernel_rfl) Tryz.ntmps127 (by simp) (by kernel_rfl) ?_
  intro ν fr; have nuE := fr.nu
  obtain ⟨x, hx, hlx⟩ := at_of hi
  obtain ⟨bk, off, cs, ty, fr0, hlp, h⟩ := hp.at hx
  have hl := hp.hl
  have lt : ((i : Int) < (L.length : Int)) = True := eq_true (by omega)
  have li : ((i : Int) < 0) = False := eq_false (by omega)
  have we : IntKind.i64.wrap ((i : Int) + 1) = ((i + 1 : Nat) : Int) := by rw [w_i64 (by omega) (by omega)]; omega
  have f0 := fr.2 0
  have f1 := fr.2 1
  have n01 : (ν 1 = ν 0) = False := by simp [nuE]
  have n10 : (ν 0 = ν 1) = False := by simp [nuE]
  obtain ⟨m1, m2⟩ := rs_ne f0
  obtain ⟨m3, m4⟩ := rs_ne f1
  obtain ⟨m5, m6⟩ := look_ne ((rs_base hp).none f0) h.hb
  have sf := fun (o o' : Obj) => eq_true (SubA.fresh (o := o) (look_c1 (o := o') n10 f1) (SubA.refl _))
  simp only [RS, rpB, hlp] at sf
  simp only [RS, rpB, hlp]
  simp (maxDischargeDepth := 16) only [evN, ↓evP, simprocAttr, forall_const, nuE, fr.2, vbQm, ↓sA_usd, ↓sA_ust, lt, li, h.hb, h.n1, h.n2, h.c0, h.c1, h.c2, h.c3, h.hc, m1, m2, m3, m4, m5, m6, sf]
  rw [← hlp]
  have dst_ : ((ν 0 = ν 1) = False) ∧ ((ν 1 = ν 0) = False) := (by simp [nuE]); generalize ν 0 = n2 at dst_  f0 f1 n01 n10 m1 m2 m3 m4 ⊢; generalize ν 1 = n3 at dst_  f0 f1 n01 n10 m1 m2 m3 m4 ⊢
  clear nuE fr sf
  have d23 := dst_
  clear dst_
  have sX : ∀ {j : Nat} {e w : Int} {A' : AH} (o o' : Obj), Vm.look (RS rb lp lcap L j e w A') n2 = none → Vm.look (RS rb lp lcap L j e w A') n3 = none → SubA (RS rb lp lcap L j e w A') ((n3, o) :: (n2, o') :: RS rb lp lcap L j e w A') := fun o o' h2 h3 => SubA.fresh (look_c1 (by simp [d23]) h3) (SubA.fresh h2 (SubA.refl _))
  cases h1 : isL x 1 ⟨#[110, 111, 116]⟩ with
  | true =>
    have htk := rtake_h rb lp lcap L A hp i x hx 0 w 1 ⟨#[110, 111, 116]⟩
    rw [tk0, h1] at htk
    simp only [if_true] at htk
    refine CallA.ownX (Y := [(n3, _), (n2, _)]) htk (dis2 f1 f0) ?_
    rintro v D ⟨rfl, hD⟩ dD
    refine ⟨_, hD, ?_⟩
    clear hD dD D htk
    simp only [RS, rpB, List.cons_append, List.nil_append]
    intro ν fr; have nuE := And.intro (fr.mem (b := n3) (by simp)) (And.intro (fr.mem (b := n2) (by simp)) (fr.nu))
    simp (maxDischargeDepth := 16) only [evN, ↓evP, simprocAttr, forall_const, nuE, fr.2, vbQm, ↓sA_usd, ↓sA_ust, d23, m1, m2, m3, m4]
    clear nuE fr
    have hn2 := nx_r hp.he hx (by rw [isL_k h1]; decide)
    have hu : unC (lxA L i) = .one 4 := by rw [hlx]; unfold unC; rw [if_pos h1]
    refine CallA.ownX (Y := [(n3, _), (n2, _)]) (hun (i + 1) A w (by omega) hn2 hp) (dis2 (rs_none f1) (rs_none f0)) ?_
    rintro v D ⟨r, k, e2, w2, A2, rfl, hk, hs2, hp2, hD, hst2⟩ dD
    refine ⟨_, hD, ?_⟩
    have g23 : Vm.look (RS rb lp lcap L k e2 w2 A2) n3 = none := hD.none (dD n3 (by simp [Vm.look]))
    have g22 : Vm.look (RS rb lp lcap L k e2 w2 A2) n2 = none := hD.none (dD n2 (by simp [Vm.look, d23]))
    clear hD dD D
    simp only [RS, rpB, List.cons_append, List.nil_append, xrV, xrC]
    intro ν fr; have nuE := And.intro (fr.mem (b := n3) (by simp)) (And.intro (fr.mem (b := n2) (by simp)) (fr.nu))
    have f5 : Vm.look ((n3, .cells #[.int .i64 x.k, .string x.t, .int .i64 x.n, .int .i64 (x.a : Int)] 48) :: (n2, .cells #[.int .i64 0, .string ⟨#[]⟩, .string ⟨#[]⟩, .int .i64 0, .slice none 0 0] 31) :: RS rb lp lcap L k e2 w2 A2) (ν 0) = none := fr.2 0
    simp (maxDischargeDepth := 16) only [evN, ↓evP, simprocAttr, forall_const, nuE, fr.2, vbQm, ↓sA_usd, ↓sA_ust, d23, sc_x1]
    have dst_ : ((ν 0 = n3) = False) ∧ ((ν 0 = n2) = False) ∧ ((n3 = ν 0) = False) ∧ ((n2 = ν 0) = False) := (by simp [nuE]); generalize ν 0 = n5 at dst_  f5 ⊢
    clear nuE fr
    have f5' : Vm.look (RS rb lp lcap L k e2 w2 A2) n5 = none := (sX _ _ g22 g23).none f5
    have f5A : Vm.look A2 n5 = none := (rs_base hp2).none f5'
    have o53 : (n5 = rb) = False ∧ (rb = n5) = False := rs_ne f5'
    refine ⟨⟨4, eB, eB, 0, some ⟨n5, 0, none⟩, 1, 1⟩, k, e2, w2, A2 ++ [(n5, .cells #[.int .i64 r.op, .string r.nm, .string r.tx, .int .i64 r.n, .slice r.p r.len r.cap] 31)], rfl, hk, SubA.trans hs2 (SubA.left _ _), ⟨look_app_none hp2.nr (by simp [Vm.look, o53]), hp2.hL.mono (SubA.left _ _), hp2.hl, hp2.he⟩, ?_, ?_⟩
    · refine SubA.both (X := RS rb lp lcap L k e2 w2 A2) (SubA.fresh (look_c1 (by simp [dst_]) (look_c1 (by simp [dst_]) f5')) (SubA.fresh (look_c1 (by simp [d23]) g23) (SubA.fresh g22 (SubA.refl _)))) (SubA.left [_] _)
    · rcases hst2 with ⟨h1, h2, t, h3, h4⟩ | ⟨h1, jj, z, h2, h3, h4⟩
      · exact .inl ⟨h1, h2, oneX 4 t, .unO hu h3, (h4.mono (SubA.left _ _)).one ⟨by simp, (xr_one n5 _ r []).mono (Dis.one f5A).symm.right⟩⟩
      · exact .inr ⟨h1, jj, z, .unE hu h2, h3, h4⟩
  | false =>
    have htk := rtake_h rb lp lcap L A hp i x hx 0 w 1 ⟨#[110, 111, 116]⟩
    rw [tk0, h1] at htk
    simp only [Bool.false_eq_true, if_false] at htk
    refine CallA.ownX (Y := [(n3, _), (n2, _)]) htk (dis2 f1 f0) ?_
    rintro v D ⟨rfl, hD⟩ dD
    refine ⟨_, hD, ?_⟩
    clear hD dD D htk
    simp only [RS, rpB, List.cons_append, List.nil_append]
    intro ν fr; have nuE := And.intro (fr.mem (b := n3) (by simp)) (And.intro (fr.mem (b := n2) (by simp)) (fr.nu))
    simp (maxDischargeDepth := 16) only [evN, ↓evP, simprocAttr, forall_const, nuE, fr.2, vbQm, ↓sA_usd, ↓sA_ust, d23, m1, m2, m3, m4]
    clear nuE fr
    cases h2 : isL x 4 ⟨#[45]⟩ with
    | true =>
      have htk := rtake_h rb lp lcap L A hp i x hx 0 w 4 ⟨#[45]⟩
      rw [tk0, h2] at htk
      simp only [if_true] at htk
      refine CallA.ownX (Y := [(n3, _), (n2, _)]) htk (dis2 f1 f0) ?_
      rintro v D ⟨rfl, hD⟩ dD
      refine ⟨_, hD, ?_⟩
      clear hD dD D htk
      simp only [RS, rpB, List.cons_append, List.nil_append]
      intro ν fr; have nuE := And.intro (fr.mem (b := n3) (by simp)) (And.intro (fr.mem (b := n2) (by simp)) (fr.nu))
      simp (maxDischargeDepth := 16) only [evN, ↓evP, simprocAttr, forall_const, nuE, fr.2, vbQm, ↓sA_usd, ↓sA_ust, d23, m1, m2, m3, m4]
      clear nuE fr
      have hn2 := nx_r hp.he hx (by rw [isL_k h2]; decide)
      have hu : unC (lxA L i) = .one 5 := by rw [hlx]; unfold unC; rw [if_neg (by rw [h1]; decide), if_pos h2]
      refine CallA.ownX (Y := [(n3, _), (n2, _)]) (hun (i + 1) A w (by omega) hn2 hp) (dis2 (rs_none f1) (rs_none f0)) ?_
      rintro v D ⟨r, k, e2, w2, A2, rfl, hk, hs2, hp2, hD, hst2⟩ dD
      refine ⟨_, hD, ?_⟩
      have g23 : Vm.look (RS rb lp lcap L k e2 w2 A2) n3 = none := hD.none (dD n3 (by simp [Vm.look]))
      have g22 : Vm.look (RS rb lp lcap L k e2 w2 A2) n2 = none := hD.none (dD n2 (by simp [Vm.look, d23]))
      clear hD dD D
      simp only [RS, rpB, List.cons_append, List.nil_append, xrV, xrC]
      intro ν fr; have nuE := And.intro (fr.mem (b := n3) (by simp)) (And.intro (fr.mem (b := n2) (by simp)) (fr.nu))
      have f5 : Vm.look ((n3, .cells #[.int .i64 x.k, .string x.t, .int .i64 x.n, .int .i64 (x.a : Int)] 48) :: (n2, .cells #[.int .i64 0, .string ⟨#[]⟩, .string ⟨#[]⟩, .int .i64 0, .slice none 0 0] 31) :: RS rb lp lcap L k e2 w2 A2) (ν 0) = none := fr.2 0
      simp (maxDischargeDepth := 16) only [evN, ↓evP, simprocAttr, forall_const, nuE, fr.2, vbQm, ↓sA_usd, ↓sA_ust, d23, sc_x1]
      have dst_ : ((ν 0 = n3) = False) ∧ ((ν 0 = n2) = False) ∧ ((n3 = ν 0) = False) ∧ ((n2 = ν 0) = False) := (by simp [nuE]); generalize ν 0 = n5 at dst_  f5 ⊢
      clear nuE fr
      have f5' : Vm.look (RS rb lp lcap L k e2 w2 A2) n5 = none := (sX _ _ g22 g23).none f5
      have f5A : Vm.look A2 n5 = none := (rs_base hp2).none f5'
      have o53 : (n5 = rb) = False ∧ (rb = n5) = False := rs_ne f5'
      refine ⟨⟨5, eB, eB, 0, some ⟨n5, 0, none⟩, 1, 1⟩, k, e2, w2, A2 ++ [(n5, .cells #[.int .i64 r.op, .string r.nm, .string r.tx, .int .i64 r.n, .slice r.p r.len r.cap] 31)], rfl, hk, SubA.trans hs2 (SubA.left _ _), ⟨look_app_none hp2.nr (by simp [Vm.look, o53]), hp2.hL.mono (SubA.left _ _), hp2.hl, hp2.he⟩, ?_, ?_⟩
      · refine SubA.both (X := RS rb lp lcap L k e2 w2 A2) (SubA.fresh (look_c1 (by simp [dst_]) (look_c1 (by simp [dst_]) f5')) (SubA.fresh (look_c1 (by simp [d23]) g23) (SubA.fresh g22 (SubA.refl _)))) (SubA.left [_] _)
      · rcases hst2 with ⟨h1, h2, t, h3, h4⟩ | ⟨h1, jj, z, h2, h3, h4⟩
        · exact .inl ⟨h1, h2, oneX 5 t, .unO hu h3, (h4.mono (SubA.left _ _)).one ⟨by simp, (xr_one n5 _ r []).mono (Dis.one f5A).symm.right⟩⟩
        · exact .inr ⟨h1, jj, z, .unE hu h2, h3, h4⟩
    | false =>
      have htk := rtake_h rb lp lcap L A hp i x hx 0 w 4 ⟨#[45]⟩
      rw [tk0, h2] at htk
      simp only [Bool.false_eq_true, if_false] at htk
      refine CallA.ownX (Y := [(n3, _), (n2, _)]) htk (dis2 f1 f0) ?_
      rintro v D ⟨rfl, hD⟩ dD
      refine ⟨_, hD, ?_⟩
      clear hD dD D htk
      simp only [RS, rpB, List.cons_append, List.nil_append]
      intro ν fr; have nuE := And.intro (fr.mem (b := n3) (by simp)) (And.intro (fr.mem (b := n2) (by simp)) (fr.nu))
      simp (maxDischargeDepth := 16) only [evN, ↓evP, simprocAttr, forall_const, nuE, fr.2, vbQm, ↓sA_usd, ↓sA_ust, d23, m1, m2, m3, m4]
      clear nuE fr
      cases h3 : isL x 4 ⟨#[40]⟩ with
      | true =>
        have htk := rtake_h rb lp lcap L A hp i x hx 0 w 4 ⟨#[40]⟩
        rw [tk0, h3] at htk
        simp only [if_true] at htk
        refine CallA.ownX (Y := [(n3, _), (n2, _)]) htk (dis2 f1 f0) ?_
        rintro v D ⟨rfl, hD⟩ dD
        refine ⟨_, hD, ?_⟩
        clear hD dD D htk
        simp only [RS, rpB, List.cons_append, List.nil_append]
        intro ν fr; have nuE := And.intro (fr.mem (b := n3) (by simp)) (And.intro (fr.mem (b := n2) (by simp)) (fr.nu))
        simp (maxDischargeDepth := 16) only [evN, ↓evP, simprocAttr, forall_const, nuE, fr.2, vbQm, ↓sA_usd, ↓sA_ust, d23, m1, m2, m3, m4]
        clear nuE fr
        have hn2 := nx_r hp.he hx (by rw [isL_k h3]; decide)
        have hu : unC (lxA L i) = .par := by rw [hlx]; unfold unC; have hk := isL_k h3; rw [if_neg (by rw [h1]; decide), if_neg (by rw [h2]; decide), if_neg (by rw [isL_nk (k' := 1) hk (by decide)]; decide), if_neg (by rw [isL_nk (k' := 1) hk (by decide)]; decide), if_pos h3]
        refine CallA.ownX (Y := [(n3, _), (n2, _)]) (hex (i + 1) A w (by omega) hn2 hp) (dis2 (rs_none f1) (rs_none f0)) ?_
        rintro v D ⟨r, k, e2, w2, A2, rfl, hk, hs2, hp2, hD, hst2⟩ dD
        refine ⟨_, hD, ?_⟩
        have g23 : Vm.look (RS rb lp lcap L k e2 w2 A2) n3 = none := hD.none (dD n3 (by simp [Vm.look]))
        have g22 : Vm.look (RS rb lp lcap L k e2 w2 A2) n2 = none := hD.none (dD n2 (by simp [Vm.look, d23]))
        clear hD dD D
        simp only [RS, rpB, List.cons_append, List.nil_append, xrV, xrC]
        intro ν fr; have nuE := And.intro (fr.mem (b := n3) (by simp)) (And.intro (fr.mem (b := n2) (by simp)) (fr.nu))
        have f5 : Vm.look ((n3, .cells #[.int .i64 x.k, .string x.t, .int .i64 x.n, .int .i64 (x.a : Int)] 48) :: (n2, .cells #[.int .i64 0, .string ⟨#[]⟩, .string ⟨#[]⟩, .int .i64 0, .slice none 0 0] 31) :: RS rb lp lcap L k e2 w2 A2) (ν 0) = none := fr.2 0
        simp (maxDischargeDepth := 16) only [evN, ↓evP, simprocAttr, forall_const, nuE, fr.2, vbQm, ↓sA_usd, ↓sA_ust, d23]
        have dst_ : ((ν 0 = n3) = False) ∧ ((ν 0 = n2) = False) ∧ ((n3 = ν 0) = False) ∧ ((n2 = ν 0) = False) := (by simp [nuE]); generalize ν 0 = n5 at dst_  f5 ⊢
        clear nuE fr
        have f5' : Vm.look (RS rb lp lcap L k e2 w2 A2) n5 = none := (sX _ _ g22 g23).none f5
        obtain ⟨y, hy, hly⟩ := at_of hk
        obtain ⟨m7, m8⟩ := rs_ne f5'
        refine CallA.ownX (Y := [(n5, _), (n3, _), (n2, _)]) (rwant_h rb lp lcap L A2 hp2 k y hy e2 w2 4 ⟨#[41]⟩) (dis3 f5' g23 g22) ?_
        rintro v D ⟨rfl, hD⟩ dD
        refine ⟨_, hD, ?_⟩
        clear hD dD D
        have d5 := dst_
        simp only [RS, rpB, List.cons_append, List.nil_append]
        intro ν fr; have nuE := And.intro (fr.mem (b := n5) (by simp)) (And.intro (fr.mem (b := n3) (by simp)) (And.intro (fr.mem (b := n2) (by simp)) (fr.nu)))
        simp (maxDischargeDepth := 16) only [evN, ↓evP, simprocAttr, forall_const, nuE, fr.2, vbQm, ↓sA_usd, ↓sA_ust, d23, d5]
        have hwi : wnI e2 (isL y 4 ⟨#[41]⟩) k < L.length := by
          unfold wnI
          split
          · rename_i h; exact nx_r hp2.he hy (by rw [isL_k h.2]; decide)
          · exact hk
        refine ⟨r, wnI e2 (isL y 4 ⟨#[41]⟩) k, wnE e2 (isL y 4 ⟨#[41]⟩), wnW e2 w2 (isL y 4 ⟨#[41]⟩) y, A2, rfl, hwi, hs2, hp2, SubA.fresh (look_c1 (by simp [d5]) (look_c1 (by simp [d5]) (rs_none (e := e2) (i := k) (w := w2) (lcap := lcap) (lp := lp) (L := L) (A := A2) f5'))) (SubA.fresh (look_c1 (by simp [d23]) (rs_none (e := e2) (i := k) (w := w2) (lcap := lcap) (lp := lp) (L := L) (A := A2) g23)) (SubA.fresh (rs_none (e := e2) (i := k) (w := w2) (lcap := lcap) (lp := lp) (L := L) (A := A2) g22) (SubA.refl _))), ?_⟩
        rcases hst2 with ⟨rfl, h2, t, h3, h4⟩ | ⟨h1, jj, z, h2, h3, h4⟩
        · cases hc : isL y 4 ⟨#[41]⟩ with
          | true => exact .inl ⟨rfl, by simpa [wnW] using h2, t, by simp only [wnI, and_self, if_true]; exact .paO hu h3 (by rw [hly]; exact hc), h4⟩
          | false => exact .inr ⟨by decide, k, y, by simp only [wnE, if_true, Bool.false_eq_true, if_false]; exact .paB hu h3 (by rw [hly]; exact hc), hy, rfl⟩
        · exact .inr ⟨by simp only [wnE, if_neg h1]; exact h1, jj, z, by simp only [wnE, if_neg h1]; exact .paE hu h2, h3, by simp only [wnW, if_neg h1]; exact h4⟩
      | false =>
        have htk := rtake_h rb lp lcap L A hp i x hx 0 w 4 ⟨#[40]⟩
        rw [tk0, h3] at htk
        simp only [Bool.false_eq_true, if_false] at htk
        refine CallA.ownX (Y := [(n3, _), (n2, _)]) htk (dis2 f1 f0) ?_
        rintro v D ⟨rfl, hD⟩ dD
        refine ⟨_, hD, ?_⟩
        clear hD dD D htk
        simp only [RS, rpB, List.cons_append, List.nil_append]
        intro ν fr; have nuE := And.intro (fr.mem (b := n3) (by simp)) (And.intro (fr.mem (b := n2) (by simp)) (fr.nu))
        by_cases hk2 : x.k = 2
        · have hk := hk2
          have hu : unC (lxA L i) = .num := by rw [hlx]; unfold unC; rw [if_neg (by rw [isL_nk (k' := 1) hk (by decide)]; decide), if_neg (by rw [isL_nk (k' := 4) hk (by decide)]; decide), if_neg (by rw [isL_nk (k' := 1) hk (by decide)]; decide), if_neg (by rw [isL_nk (k' := 1) hk (by decide)]; decide), if_neg (by rw [isL_nk (k' := 4) hk (by decide)]; decide), if_pos hk]
          have hn2 := nx_r hp.he hx (by rw [hk]; decide)
          have hpr := Pr.nu (L := L) hu
          rw [hlx] at hpr
          simp (maxDischargeDepth := 16) only [evN, ↓evP, simprocAttr, forall_const, nuE, fr.2, vbQm, ↓sA_usd, ↓sA_ust, d23, m1, m2, m3, m4, we, hk2]
          refine ⟨⟨1, eB, eB, x.n, none, 0, 0⟩, i + 1, 0, w, A, rfl, hn2, SubA.refl _, hp, sX _ _ (rs_none f0) (rs_none f1), .inl ⟨rfl, rfl, .mk 1 eB eB x.n [], hpr, ExR.leaf _ _ _ _ _ _ _⟩⟩
        by_cases hk3 : x.k = 3
        · have hk := hk3
          have hu : unC (lxA L i) = .txt := by rw [hlx]; unfold unC; rw [if_neg (by rw [isL_nk (k' := 1) hk (by decide)]; decide), if_neg (by rw [isL_nk (k' := 4) hk (by decide)]; decide), if_neg (by rw [isL_nk (k' := 1) hk (by decide)]; decide), if_neg (by rw [isL_nk (k' := 1) hk (by decide)]; decide), if_neg (by rw [isL_nk (k' := 4) hk (by decide)]; decide), if_neg (by rw [hk]; decide), if_pos hk]
          have hn2 := nx_r hp.he hx (by rw [hk]; decide)
          have hpr := Pr.te (L := L) hu
          rw [hlx] at hpr
          simp (maxDischargeDepth := 16) only [evN, ↓evP, simprocAttr, forall_const, nuE, fr.2, vbQm, ↓sA_usd, ↓sA_ust, d23, m1, m2, m3, m4, we, hk3]
          refine ⟨⟨2, eB, x.t, 0, none, 0, 0⟩, i + 1, 0, w, A, rfl, hn2, SubA.refl _, hp, sX _ _ (rs_none f0) (rs_none f1), .inl ⟨rfl, rfl, .mk 2 eB x.t 0 [], hpr, ExR.leaf _ _ _ _ _ _ _⟩⟩
        simp (maxDischargeDepth := 16) only [evN, ↓evP, simprocAttr, forall_const, nuE, fr.2, vbQm, ↓sA_usd, ↓sA_ust, d23, m1, m2, m3, m4, we, eq_false hk2, eq_false hk3]
        clear nuE fr
        cases h4 : isL x 1 ⟨#[99, 111, 117, 110, 116]⟩ with
        | true =>
          have htk := rtake_h rb lp lcap L A hp i x hx 0 w 1 ⟨#[99, 111, 117, 110, 116]⟩
          rw [tk0, h4] at htk
          simp only [if_true] at htk
          refine CallA.ownX (Y := [(n3, _), (n2, _)]) htk (dis2 f1 f0) ?_
          rintro v D ⟨rfl, hD⟩ dD
          refine ⟨_, hD, ?_⟩
          clear hD dD D htk
          simp only [RS, rpB, List.cons_append, List.nil_append]
          intro ν fr; have nuE := And.intro (fr.mem (b := n3) (by simp)) (And.intro (fr.mem (b := n2) (by simp)) (fr.nu))
          simp (maxDischargeDepth := 16) only [evN, ↓evP, simprocAttr, forall_const, nuE, fr.2, vbQm, ↓sA_usd, ↓sA_ust, d23, m1, m2, m3, m4]
          clear nuE fr
          have hn2 := nx_r hp.he hx (by rw [isL_k h4]; decide)
          have hu : unC (lxA L i) = .use 16 := by rw [hlx]; unfold unC; rw [if_neg (by rw [h1]; decide), if_neg (by rw [h2]; decide), if_pos h4]
          refine CallA.ownX (Y := [(n3, _), (n2, _)]) (ruses_h rb lp lcap L A hp (i + 1) hn2 w 16) (dis2 (rs_none f1) (rs_none f0)) ?_
          rintro v D ⟨nm, n, k, e2, w2, rfl, hk, hD, hst2⟩ dD
          refine ⟨_, hD, ?_⟩
          clear hD dD D
          simp only [RS, rpB, List.cons_append, List.nil_append, xrV, xrC]
          intro ν fr; have nuE := And.intro (fr.mem (b := n3) (by simp)) (And.intro (fr.mem (b := n2) (by simp)) (fr.nu))
          simp (maxDischargeDepth := 16) only [evN, ↓evP, simprocAttr, forall_const, nuE, fr.2, vbQm, ↓sA_usd, ↓sA_ust, d23]
          refine ⟨⟨16, nm, eB, n, none, 0, 0⟩, k, e2, w2, A, rfl, hk, SubA.refl _, hp, sX _ _ (rs_none f0) (rs_none f1), ?_⟩
          rcases hst2 with ⟨h1, h2, h3⟩ | ⟨h1, jj, z, h2, h3, h4⟩
          · exact .inl ⟨h1, h2, .mk 16 nm eB n [], .usO hu h3, ExR.leaf _ _ _ _ _ _ _⟩
          · exact .inr ⟨by omega, jj, z, by rw [h1]; exact .usE hu h2 (by decide), h3, h4⟩
        | false =>
          have htk := rtake_h rb lp lcap L A hp i x hx 0 w 1 ⟨#[99, 111, 117, 110, 116]⟩
          rw [tk0, h4] at htk
          simp only [Bool.false_eq_true, if_false] at htk
          refine CallA.ownX (Y := [(n3, _), (n2, _)]) htk (dis2 f1 f0) ?_
          rintro v D ⟨rfl, hD⟩ dD
          refine ⟨_, hD, ?_⟩
          clear hD dD D htk
          simp only [RS, rpB, List.cons_append, List.nil_append]
          intro ν fr; have nuE := And.intro (fr.mem (b := n3) (by simp)) (And.intro (fr.mem (b := n2) (by simp)) (fr.nu))
          simp (maxDischargeDepth := 16) only [evN, ↓evP, simprocAttr, forall_const, nuE, fr.2, vbQm, ↓sA_usd, ↓sA_ust, d23, m1, m2, m3, m4]
          clear nuE fr
          cases h5 : isL x 1 ⟨#[115, 117, 109]⟩ with
          | true =>
            have htk := rtake_h rb lp lcap L A hp i x hx 0 w 1 ⟨#[115, 117, 109]⟩
            rw [tk0, h5] at htk
            simp only [if_true] at htk
            refine CallA.ownX (Y := [(n3, _), (n2, _)]) htk (dis2 f1 f0) ?_
            rintro v D ⟨rfl, hD⟩ dD
            refine ⟨_, hD, ?_⟩
            clear hD dD D htk
            simp only [RS, rpB, List.cons_append, List.nil_append]
            intro ν fr; have nuE := And.intro (fr.mem (b := n3) (by simp)) (And.intro (fr.mem (b := n2) (by simp)) (fr.nu))
            simp (maxDischargeDepth := 16) only [evN, ↓evP, simprocAttr, forall_const, nuE, fr.2, vbQm, ↓sA_usd, ↓sA_ust, d23, m1, m2, m3, m4]
            clear nuE fr
            have hn2 := nx_r hp.he hx (by rw [isL_k h5]; decide)
            have hu : unC (lxA L i) = .use 17 := by rw [hlx]; unfold unC; rw [if_neg (by rw [h1]; decide), if_neg (by rw [h2]; decide), if_neg (by rw [h4]; decide), if_pos h5]
            refine CallA.ownX (Y := [(n3, _), (n2, _)]) (ruses_h rb lp lcap L A hp (i + 1) hn2 w 17) (dis2 (rs_none f1) (rs_none f0)) ?_
            rintro v D ⟨nm, n, k, e2, w2, rfl, hk, hD, hst2⟩ dD
            refine ⟨_, hD, ?_⟩
            clear hD dD D
            simp only [RS, rpB, List.cons_append, List.nil_append, xrV, xrC]
            intro ν fr; have nuE := And.intro (fr.mem (b := n3) (by simp)) (And.intro (fr.mem (b := n2) (by simp)) (fr.nu))
            simp (maxDischargeDepth := 16) only [evN, ↓evP, simprocAttr, forall_const, nuE, fr.2, vbQm, ↓sA_usd, ↓sA_ust, d23]
            refine ⟨⟨17, nm, eB, n, none, 0, 0⟩, k, e2, w2, A, rfl, hk, SubA.refl _, hp, sX _ _ (rs_none f0) (rs_none f1), ?_⟩
            rcases hst2 with ⟨h1, h2, h3⟩ | ⟨h1, jj, z, h2, h3, h4⟩
            · exact .inl ⟨h1, h2, .mk 17 nm eB n [], .usO hu h3, ExR.leaf _ _ _ _ _ _ _⟩
            · exact .inr ⟨by omega, jj, z, by rw [h1]; exact .usE hu h2 (by decide), h3, h4⟩
          | false =>
            have htk := rtake_h rb lp lcap L A hp i x hx 0 w 1 ⟨#[115, 117, 109]⟩
            rw [tk0, h5] at htk
            simp only [Bool.false_eq_true, if_false] at htk
            refine CallA.ownX (Y := [(n3, _), (n2, _)]) htk (dis2 f1 f0) ?_
            rintro v D ⟨rfl, hD⟩ dD
            refine ⟨_, hD, ?_⟩
            clear hD dD D htk
            simp only [RS, rpB, List.cons_append, List.nil_append]
            intro ν fr; have nuE := And.intro (fr.mem (b := n3) (by simp)) (And.intro (fr.mem (b := n2) (by simp)) (fr.nu))
            simp (maxDischargeDepth := 16) only [evN, ↓evP, simprocAttr, forall_const, nuE, fr.2, vbQm, ↓sA_usd, ↓sA_ust, d23, m1, m2, m3, m4]
            clear nuE fr
            refine CallA.ownX (Y := [(n3, _), (n2, _)]) (rname_h rb lp lcap L A hp i x hx 0 w) (dis2 f1 f0) ?_
            rintro v D ⟨rfl, hD⟩ dD
            refine ⟨_, hD, ?_⟩
            clear hD dD D
            simp only [RS, rpB, List.cons_append, List.nil_append]
            intro ν fr; have nuE := And.intro (fr.mem (b := n3) (by simp)) (And.intro (fr.mem (b := n2) (by simp)) (fr.nu))
            simp (maxDischargeDepth := 16) only [evN, ↓evP, simprocAttr, forall_const, nuE, fr.2, vbQm, ↓sA_usd, ↓sA_ust, d23, m1, m2, m3, m4]
            cases hn : nmB x with
            | true =>
              have hu : unC (lxA L i) = .nam := by rw [hlx]; unfold unC; rw [if_neg (by rw [h1]; decide), if_neg (by rw [h2]; decide), if_neg (by rw [h4]; decide), if_neg (by rw [h5]; decide), if_neg (by rw [h3]; decide), if_neg hk2, if_neg hk3, if_pos hn]
              have hpr := Pr.na (L := L) hu
              rw [hlx] at hpr
              have hn2 := nx_r hp.he hx (nmB_k hn)
              exact ⟨⟨3, x.t, eB, 0, none, 0, 0⟩, i + 1, 0, w, A, by simp [xrV, xrC, eB], hn2, SubA.refl _, hp, sX _ _ (rs_none f0) (rs_none f1), .inl ⟨rfl, rfl, .mk 3 x.t eB 0 [], hpr, ExR.leaf _ _ _ _ _ _ _⟩⟩
            | false =>
              have hu : unC (lxA L i) = .bad := by rw [hlx]; unfold unC; rw [if_neg (by rw [h1]; decide), if_neg (by rw [h2]; decide), if_neg (by rw [h4]; decide), if_neg (by rw [h5]; decide), if_neg (by rw [h3]; decide), if_neg hk2, if_neg hk3, if_neg (by rw [hn]; decide)]
              exact ⟨⟨3, eB, eB, 0, none, 0, 0⟩, i, 2, (x.a : Int), A, by simp [xrV, xrC, eB], hi, SubA.refl _, hp, sX _ _ (rs_none f0) (rs_none f1), .inr ⟨by decide, i, x, .ba hu, hx, rfl⟩⟩
end Go.Proofs.YtgglccpckhpocaaGreatDoor
namespace Go.Proofs.YtgglccpckhpocaaGreatDoor
open Go.Vm
set_option maxHeartbeats 4000000
set_option maxRecDepth 20000
structure LrAll (rb : Nat) (lp : Option Addr) (lcap : Nat) (L : List LR) (A : AH) (i : Nat) : Prop where
  un : ∀ w, LvR 127 5 rb lp lcap L A i w
  pr : ∀ w, LvR 119 4 rb lp lcap L A i w
  su : ∀ w, LvR 107 3 rb lp lcap L A i w
  cm : ∀ w, LvR 92 2 rb lp lcap L A i w
  cj : ∀ w, LvR 64 1 rb lp lcap L A i w
  ex : ∀ w, LvR 32 0 rb lp lcap L A i w
theorem upR {L : List LR} {i : Nat} {Q : Nat → AH → Int → Prop} {O : AH → Prop} (h1 : ∀ A w, O A → Q i A w) (h2 : ∀ k A w, i < k → k < L.length → O A → Q k A w) : ∀ k A w, i ≤ k → k < L.length → O A → Q k A w := fun k A w hk hl ho => by
  rcases Nat.lt_or_ge i k with h | h
  · exact h2 k A w h hl ho
  · have : k = i := by omega
    subst this
    exact h1 A w ho
theorem rlevels (rb : Nat) (lp : Option Addr) (lcap : Nat) (L : List LR) : ∀ (m i : Nat) (A : AH), L.length - i = m → i < L.length → RsOk rb lp L A → LrAll rb lp lcap L A i := by
  intro m
  induction m using Nat.strongRecOn with
  | ind m ih =>
    intro i A hm hi hp
    have all : ∀ k A', i < k → k < L.length → RsOk rb lp L A' → LrAll rb lp lcap L A' k := fun k A' h1 h2 h3 => ih (L.length - k) (by omega) k A' rfl h2 h3
    have un : ∀ A' w, RsOk rb lp L A' → LvR 127 5 rb lp lcap L A' i w := fun A' w h => runary_h rb lp lcap L A' h i hi w (fun k A2 w h1 h2 h3 => (all k A2 h1 h2 h3).un w) (fun k A2 w h1 h2 h3 => (all k A2 h1 h2 h3).ex w)
    have pr : ∀ A' w, RsOk rb lp L A' → LvR 119 4 rb lp lcap L A' i w := fun A' w h => rprod_h rb lp lcap L A' h i hi w (upR (Q := fun k A w => LvR 127 5 rb lp lcap L A k w) un fun k A2 w h1 h2 h3 => (all k A2 h1 h2 h3).un w)
    have su : ∀ A' w, RsOk rb lp L A' → LvR 107 3 rb lp lcap L A' i w := fun A' w h => rsum_h rb lp lcap L A' h i hi w (upR (Q := fun k A w => LvR 119 4 rb lp lcap L A k w) pr fun k A2 w h1 h2 h3 => (all k A2 h1 h2 h3).pr w)
    have cm : ∀ A' w, RsOk rb lp L A' → LvR 92 2 rb lp lcap L A' i w := fun A' w h => rcomp_h rb lp lcap L A' h i hi w (upR (Q := fun k A w => LvR 107 3 rb lp lcap L A k w) su fun k A2 w h1 h2 h3 => (all k A2 h1 h2 h3).su w)
    have cj : ∀ A' w, RsOk rb lp L A' → LvR 64 1 rb lp lcap L A' i w := fun A' w h => rconj_h rb lp lcap L A' h i hi w (upR (Q := fun k A w => LvR 92 2 rb lp lcap L A k w) cm fun k A2 w h1 h2 h3 => (all k A2 h1 h2 h3).cm w)
    exact ⟨fun w => un A w hp, fun w => pr A w hp, fun w => su A w hp, fun w => cm A w hp, fun w => cj A w hp, fun w => rexpr_h rb lp lcap L A hp i hi w (upR (Q := fun k A w => LvR 64 1 rb lp lcap L A k w) cj fun k A2 w h1 h2 h3 => (all k A2 h1 h2 h3).cj w)⟩
theorem rexprC (rb : Nat) (lp : Option Addr) (lcap : Nat) (L : List LR) (A : AH) (hp : RsOk rb lp L A) (i : Nat) (hi : i < L.length) (e w : Int) :
    CallA Tryz.prog 32 #[.pointer (some ⟨rb, 0, none⟩)] (RS rb lp lcap L i e w A) fun u D => ∃ r i' e' w' A', u = xrV r ∧ i' < L.length ∧ SubA A A' ∧ RsOk rb lp L A' ∧ SubA (RS rb lp lcap L i' e' w' A') D ∧ ((e = 0 ∧ e' = 0 ∧ w' = w ∧ ∃ t, Pr L (.lv 0) i (.ok t i') ∧ ExR A' t r) ∨ (e = 0 ∧ e' ≠ 0 ∧ ∃ j x, Pr L (.lv 0) i (.er e' j) ∧ L[j]? = some x ∧ w' = (x.a : Int)) ∨ (e ≠ 0 ∧ e' = e ∧ w' = w)) :=
  lvB (l := 0) hp hi (fun he => (rlevels rb lp lcap L _ i A rfl hi hp).ex w) (fun he => zex_h rb lp lcap L A i e w he)
end Go.Proofs.YtgglccpckhpocaaGreatDoor
namespace Go.Proofs.YtgglccpckhpocaaGreatDoor
open Go.Vm
set_option maxHeartbeats 4000000
set_option maxRecDepth 20000
theorem rscan_a (A : AH) (s : ByteArray) (hs : s.size ≤ 100000) : CallA Tryz.prog 28 #[.string s] A fun u D => ∃ v B, u = v ∧ (∃ w, v = .tuple #[w, .int .i64 (scanF s).1, .int .i64 ((scanF s).2.1 : Nat)] ∧ OwnL LR.cells 4 48 w B (scanF s).2.2) ∧ Dis B A ∧ SubA (B ++ A) D := by
  intro h hA
  unfold RunC
  rw [if_pos (by kernel_rfl)]
  refine (rscan_h s hs h).mono0 ?_
  rintro r h' ⟨v, rfl, o, g⟩
  obtain ⟨B, o2, sB, hb⟩ := own_ha o
  have dB : Dis B A := fun x hx => by
    cases hl : Vm.look A x with
    | none => exact absurd hl hx
    | some ob =>
      have := hA.lt hl
      cases hB : Vm.look B x with
      | none => rfl
      | some o3 => have := hb x (by rw [hB]; simp); omega
  refine ⟨_, B ++ A, rfl, Sat.both sB (hA.grew g), ⟨g.le, fun b hlt hl => ⟨g.old b hlt, look_app_none ?_ hl⟩⟩, _, B, rfl, ⟨v, rfl, .inl o2⟩, dB, SubA.refl _⟩
  cases hB : Vm.look B b with
  | none => rfl
  | some o3 => have := hb b (by rw [hB]; simp); omega
end Go.Proofs.YtgglccpckhpocaaGreatDoor
