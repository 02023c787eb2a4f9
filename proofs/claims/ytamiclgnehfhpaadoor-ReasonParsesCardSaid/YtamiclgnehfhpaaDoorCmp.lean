/-
Reasons: lists of texts, reasons and tables compared where they are equal; the examples.
Conditions: none.
-/
import Derived.Test.YtamiclgnehfhpaaDoorFmX
namespace Go.Proofs.YtamiclgnehfhpaaDoor
open Go.Vm
set_option linter.unusedSimpArgs false
set_option linter.unusedVariables false
set_option maxHeartbeats 4000000
set_option maxRecDepth 20000
theorem vbCmp : type_of% (And.intro @slIndexByte_v (And.intro @indexByte_v (And.intro @indexRune_v (And.intro @containsRune_v (And.intro @slHasPrefix_v (And.intro @hasPrefix_v (And.intro @classOf_v (And.intro @isWordByte_v (And.intro @letter_v (And.intro @digit_v (And.intro @wordAt_v (And.intro @rword_v (And.intro @skip_v (And.intro @rskip_v (And.intro @number_v (And.intro @rnumber_v (And.intro @literal_v (And.intro @rtext_v (And.intro @lexemeAt_v (And.intro @rlexeme_v (And.intro @isName_v (And.intro @risName_v (And.intro @possible_v (And.intro @days_v (And.intro @due_v (And.intro @rkind_v (And.intro @rdays_v (And.intro @rdaysS_v (And.intro @rdue_v (And.intro @soft_usd (And.intro @soft_ust (And.intro @cnvN_pu (And.intro @cnvN_up (@eqS_pp)))))))))))))))))))))))))))))))))) := And.intro @slIndexByte_v (And.intro @indexByte_v (And.intro @indexRune_v (And.intro @containsRune_v (And.intro @slHasPrefix_v (And.intro @hasPrefix_v (And.intro @classOf_v (And.intro @isWordByte_v (And.intro @letter_v (And.intro @digit_v (And.intro @wordAt_v (And.intro @rword_v (And.intro @skip_v (And.intro @rskip_v (And.intro @number_v (And.intro @rnumber_v (And.intro @literal_v (And.intro @rtext_v (And.intro @lexemeAt_v (And.intro @rlexeme_v (And.intro @isName_v (And.intro @risName_v (And.intro @possible_v (And.intro @days_v (And.intro @due_v (And.intro @rkind_v (And.intro @rdays_v (And.intro @rdaysS_v (And.intro @rdue_v (And.intro @soft_usd (And.intro @soft_ust (And.intro @cnvN_pu (And.intro @cnvN_up (@eqS_pp)))))))))))))))))))))))))))))))))
theorem eqT13_h (A : AH) (L : List Txt) (p : Option Addr) (cap : Nat) (q : Option Addr) (qcap : Nat) (h1 : TxR A p cap L) (h2 : TxR A q qcap L) : CallA Tryd.prog 22 #[.slice p L.length cap, .slice q L.length qcap] A (fun u_ A_ => u_ = .bool true ∧ SubA A A_) := by
  refine callA_of_denA ⟨Tryd.prog, 22, Tryd.f22, 26, [0, 1, 4, 5], [], [(6, .q false)], _⟩ (args := [_, _]) Tryd.func22 rfl (by kernel_rfl) Tryd.ntmps22 (by simp) (by kernel_rfl) ?_
  intro ν fr; have nuE := fr.nu
  have hcap := h1.2
  simp (maxDischargeDepth := 16) only [argE_nil, argE_cons, ↓vmD, vmV, vmStd, Nat.reduceMul, ↓reduceIte, Nat.reduceAdd, Nat.reduceSub, Nat.reduceEqDiff, Nat.reduceLT, Nat.reduceLeDiff, reduceCtorEq, Int.reduceToNat, Int.reduceLT, Int.reduceLE, Int.reduceEq, Int.reduceNeg, Int.reduceBEq, Int.reduceBNe, String.reduceEq, forall_const, ↓vmDA, vmVA, ↓vmQA, vmR, vmRA, ↓vmSA, vmSV, tyS, nuE, SubA.skip, SubA.refl, fr.2, vbCmp, ↓sA_usd, ↓sA_ust]
  obtain ⟨e, l, he, hd, hle⟩ : ∃ (e : Nat) (l : List Txt), e = 0 ∧ l = L.drop e ∧ e ≤ L.length := ⟨0, L, rfl, rfl, by omega⟩
  rw [show (5, some (Value.int .i64 0)) = (5, some (Value.int .i64 (e : Int))) by rw [he]; rfl]
  clear he nuE fr
  induction l generalizing e with
  | nil =>
    obtain ⟨hn1, hn2⟩ := drop_nil hd hle
    have lt : ((e : Int) < (L.length : Int)) = False := eq_false (by omega)
    refine LoopA.intro (by kernel_rfl) ?_
    intro ν fr; have nuE := fr.nu
    simp (maxDischargeDepth := 16) only [argE_nil, argE_cons, ↓vmD, vmV, vmStd, Nat.reduceMul, ↓reduceIte, Nat.reduceAdd, Nat.reduceSub, Nat.reduceEqDiff, Nat.reduceLT, Nat.reduceLeDiff, reduceCtorEq, Int.reduceToNat, Int.reduceLT, Int.reduceLE, Int.reduceEq, Int.reduceNeg, Int.reduceBEq, Int.reduceBNe, String.reduceEq, forall_const, ↓vmDA, vmVA, ↓vmQA, vmR, vmRA, ↓vmSA, vmSV, tyS, nuE, SubA.skip, SubA.refl, fr.2, vbCmp, ↓sA_usd, ↓sA_ust, lt]
  | cons x l ih =>
    obtain ⟨ha, hlt, hd', htk⟩ := drop_some hd
    have lt : ((e : Int) < (L.length : Int)) = True := eq_true (by omega)
    have li : ((e : Int) < 0) = False := eq_false (by omega)
    have we : IntKind.i64.wrap ((e : Int) + 1) = ((e + 1 : Nat) : Int) := by rw [w_i64 (by omega) (by omega)]; omega
    obtain ⟨bk, off, cs, ty, fr0, hp0, hbk, hcr, hcc⟩ := h1.1.at ha
    obtain ⟨bk2, off2, cs2, ty2, fr2, hp2, hbk2, hcr2, hcc2⟩ := h2.1.at ha
    subst hp0
    subst hp2
    have hc0 : cs[off + e * 1]? = some (.string (bs x)) := hcc 0 _ rfl
    have hc2 : cs2[off2 + e * 1]? = some (.string (bs x)) := hcc2 0 _ rfl
    refine LoopA.intro (by kernel_rfl) ?_
    intro ν fr; have nuE := fr.nu
    simp (maxDischargeDepth := 16) only [argE_nil, argE_cons, ↓vmD, vmV, vmStd, Nat.reduceMul, ↓reduceIte, Nat.reduceAdd, Nat.reduceSub, Nat.reduceEqDiff, Nat.reduceLT, Nat.reduceLeDiff, reduceCtorEq, Int.reduceToNat, Int.reduceLT, Int.reduceLE, Int.reduceEq, Int.reduceNeg, Int.reduceBEq, Int.reduceBNe, String.reduceEq, forall_const, ↓vmDA, vmVA, ↓vmQA, vmR, vmRA, ↓vmSA, vmSV, tyS, nuE, SubA.skip, SubA.refl, fr.2, vbCmp, ↓sA_usd, ↓sA_ust, lt, li, hbk, hbk2, hc0, hc2, we]
    exact LoopA.weak (ih (e + 1) hd' (by omega)) (by simp only [subE, get_cons, Nat.reduceEqDiff, ↓reduceIte, reduceCtorEq, Nat.reduceAdd, and_self, and_true]) (SubA.refl _)
theorem eqT13_w (A : AH) (L : List Txt) (p : Option Addr) (cap : Nat) (q : Option Addr) (qcap : Nat) (h1 : TxR A p cap L) (h2 : TxR A q qcap L) (B_ : AH) (hB_ : SubA A B_) : valA Tryd.prog 22 #[.slice p L.length cap, .slice q L.length qcap] B_ = some (.bool true) := valA_eq (pureA_at (by kernel_rfl) (eqT13_h A L p cap q qcap h1 h2) hB_)
theorem eqT13_v (A : AH) (L : List Txt) (p : Option Addr) (cap : Nat) (q : Option Addr) (qcap : Nat) (h1 : TxR A p cap L) (h2 : TxR A q qcap L) : valA Tryd.prog 22 #[.slice p L.length cap, .slice q L.length qcap] A = some (.bool true) := valA_eq (pureA_at (by kernel_rfl) (eqT13_h A L p cap q qcap h1 h2) (SubA.refl _))
theorem eqT44_h (A : AH) (L : List Txt) (p : Option Addr) (cap : Nat) (q : Option Addr) (qcap : Nat) (h1 : TxR A p cap L) (h2 : TxR A q qcap L) : CallA Tryd.prog 36 #[.slice p L.length cap, .slice q L.length qcap] A (fun u_ A_ => u_ = .bool true ∧ SubA A A_) := by
  refine callA_of_denA ⟨Tryd.prog, 36, Tryd.f36, 32, [0, 1, 4, 5], [], [(4, .q false)], _⟩ (args := [_, _]) Tryd.func36 rfl (by kernel_rfl) Tryd.ntmps36 (by simp) (by kernel_rfl) ?_
  intro ν fr; have nuE := fr.nu
  have hcap := h1.2
  simp (maxDischargeDepth := 16) only [argE_nil, argE_cons, ↓vmD, vmV, vmStd, Nat.reduceMul, ↓reduceIte, Nat.reduceAdd, Nat.reduceSub, Nat.reduceEqDiff, Nat.reduceLT, Nat.reduceLeDiff, reduceCtorEq, Int.reduceToNat, Int.reduceLT, Int.reduceLE, Int.reduceEq, Int.reduceNeg, Int.reduceBEq, Int.reduceBNe, String.reduceEq, forall_const, ↓vmDA, vmVA, ↓vmQA, vmR, vmRA, ↓vmSA, vmSV, tyS, nuE, SubA.skip, SubA.refl, fr.2, vbCmp, ↓sA_usd, ↓sA_ust]
  obtain ⟨e, l, he, hd, hle⟩ : ∃ (e : Nat) (l : List Txt), e = 0 ∧ l = L.drop e ∧ e ≤ L.length := ⟨0, L, rfl, rfl, by omega⟩
  rw [show (5, some (Value.int .i64 0)) = (5, some (Value.int .i64 (e : Int))) by rw [he]; rfl]
  clear he nuE fr
  induction l generalizing e with
  | nil =>
    obtain ⟨hn1, hn2⟩ := drop_nil hd hle
    have lt : ((e : Int) < (L.length : Int)) = False := eq_false (by omega)
    refine LoopA.intro (by kernel_rfl) ?_
    intro ν fr; have nuE := fr.nu
    simp (maxDischargeDepth := 16) only [argE_nil, argE_cons, ↓vmD, vmV, vmStd, Nat.reduceMul, ↓reduceIte, Nat.reduceAdd, Nat.reduceSub, Nat.reduceEqDiff, Nat.reduceLT, Nat.reduceLeDiff, reduceCtorEq, Int.reduceToNat, Int.reduceLT, Int.reduceLE, Int.reduceEq, Int.reduceNeg, Int.reduceBEq, Int.reduceBNe, String.reduceEq, forall_const, ↓vmDA, vmVA, ↓vmQA, vmR, vmRA, ↓vmSA, vmSV, tyS, nuE, SubA.skip, SubA.refl, fr.2, vbCmp, ↓sA_usd, ↓sA_ust, lt]
  | cons x l ih =>
    obtain ⟨ha, hlt, hd', htk⟩ := drop_some hd
    have lt : ((e : Int) < (L.length : Int)) = True := eq_true (by omega)
    have li : ((e : Int) < 0) = False := eq_false (by omega)
    have we : IntKind.i64.wrap ((e : Int) + 1) = ((e + 1 : Nat) : Int) := by rw [w_i64 (by omega) (by omega)]; omega
    obtain ⟨bk, off, cs, ty, fr0, hp0, hbk, hcr, hcc⟩ := h1.1.at ha
    obtain ⟨bk2, off2, cs2, ty2, fr2, hp2, hbk2, hcr2, hcc2⟩ := h2.1.at ha
    subst hp0
    subst hp2
    have hc0 : cs[off + e * 1]? = some (.string (bs x)) := hcc 0 _ rfl
    have hc2 : cs2[off2 + e * 1]? = some (.string (bs x)) := hcc2 0 _ rfl
    refine LoopA.intro (by kernel_rfl) ?_
    intro ν fr; have nuE := fr.nu
    simp (maxDischargeDepth := 16) only [argE_nil, argE_cons, ↓vmD, vmV, vmStd, Nat.reduceMul, ↓reduceIte, Nat.reduceAdd, Nat.reduceSub, Nat.reduceEqDiff, Nat.reduceLT, Nat.reduceLeDiff, reduceCtorEq, Int.reduceToNat, Int.reduceLT, Int.reduceLE, Int.reduceEq, Int.reduceNeg, Int.reduceBEq, Int.reduceBNe, String.reduceEq, forall_const, ↓vmDA, vmVA, ↓vmQA, vmR, vmRA, ↓vmSA, vmSV, tyS, nuE, SubA.skip, SubA.refl, fr.2, vbCmp, ↓sA_usd, ↓sA_ust, lt, li, hbk, hbk2, hc0, hc2, we]
    exact LoopA.weak (ih (e + 1) hd' (by omega)) (by simp only [subE, get_cons, Nat.reduceEqDiff, ↓reduceIte, reduceCtorEq, Nat.reduceAdd, and_self, and_true]) (SubA.refl _)
theorem eqT44_w (A : AH) (L : List Txt) (p : Option Addr) (cap : Nat) (q : Option Addr) (qcap : Nat) (h1 : TxR A p cap L) (h2 : TxR A q qcap L) (B_ : AH) (hB_ : SubA A B_) : valA Tryd.prog 36 #[.slice p L.length cap, .slice q L.length qcap] B_ = some (.bool true) := valA_eq (pureA_at (by kernel_rfl) (eqT44_h A L p cap q qcap h1 h2) hB_)
theorem eqT44_v (A : AH) (L : List Txt) (p : Option Addr) (cap : Nat) (q : Option Addr) (qcap : Nat) (h1 : TxR A p cap L) (h2 : TxR A q qcap L) : valA Tryd.prog 36 #[.slice p L.length cap, .slice q L.length qcap] A = some (.bool true) := valA_eq (pureA_at (by kernel_rfl) (eqT44_h A L p cap q qcap h1 h2) (SubA.refl _))
theorem eqRs_h (A : AH) (d : Rn) (p1 p2 q1 q2 : Option Addr) (c1 c2 k1 k2 : Nat) (h1 : InR A ⟨d, p1, c1, p2, c2⟩) (h2 : InR A ⟨d, q1, k1, q2, k2⟩) : CallA Tryd.prog 15 #[.agg #[.string (bs d.code), .int .i64 d.d1, .int .i64 d.d2, .int .i64 d.d3, .int .i64 d.d4, .slice p1 d.cl.length c1, .slice p2 d.df.length c2], .agg #[.string (bs d.code), .int .i64 d.d1, .int .i64 d.d2, .int .i64 d.d3, .int .i64 d.d4, .slice q1 d.cl.length k1, .slice q2 d.df.length k2]] A (fun u_ A_ => u_ = .bool true ∧ SubA A A_) := by
  refine callA_of_denA ⟨Tryd.prog, 15, Tryd.f15, 52, [0, 1, 2, 3, 4], [], [], _⟩ (args := [_, _]) Tryd.func15 rfl (by kernel_rfl) Tryd.ntmps15 (by simp) (by kernel_rfl) ?_
  intro ν fr; have nuE := fr.nu
  have f0 := fr.2 0
  have f1 := fr.2 1
  have s2 : ∀ o o', SubA A ((ν 1, o) :: (ν 0, o') :: A) := fun o o' => SubA.fresh (look_c1 (by simp [nuE]) f1) (SubA.fresh f0 (SubA.refl _))
  have e1 := fun o o' => eqT44_w A d.cl p1 c1 q1 k1 h1.1 h2.1 ((ν 1, o) :: (ν 0, o') :: A) (s2 o o')
  have e2 := fun o o' => eqT44_w A d.df p2 c2 q2 k2 h1.2 h2.2 ((ν 1, o) :: (ν 0, o') :: A) (s2 o o')
  simp (maxDischargeDepth := 16) only [argE_nil, argE_cons, ↓vmD, vmV, vmStd, Nat.reduceMul, ↓reduceIte, Nat.reduceAdd, Nat.reduceSub, Nat.reduceEqDiff, Nat.reduceLT, Nat.reduceLeDiff, reduceCtorEq, Int.reduceToNat, Int.reduceLT, Int.reduceLE, Int.reduceEq, Int.reduceNeg, Int.reduceBEq, Int.reduceBNe, String.reduceEq, forall_const, ↓vmDA, vmVA, ↓vmQA, vmR, vmRA, ↓vmSA, vmSV, tyS, nuE, SubA.skip, SubA.refl, fr.2, vbCmp, ↓sA_usd, ↓sA_ust, e1, e2]
theorem eqRs_w (A : AH) (d : Rn) (p1 p2 q1 q2 : Option Addr) (c1 c2 k1 k2 : Nat) (h1 : InR A ⟨d, p1, c1, p2, c2⟩) (h2 : InR A ⟨d, q1, k1, q2, k2⟩) (B_ : AH) (hB_ : SubA A B_) : valA Tryd.prog 15 #[.agg #[.string (bs d.code), .int .i64 d.d1, .int .i64 d.d2, .int .i64 d.d3, .int .i64 d.d4, .slice p1 d.cl.length c1, .slice p2 d.df.length c2], .agg #[.string (bs d.code), .int .i64 d.d1, .int .i64 d.d2, .int .i64 d.d3, .int .i64 d.d4, .slice q1 d.cl.length k1, .slice q2 d.df.length k2]] B_ = some (.bool true) := valA_eq (pureA_at (by kernel_rfl) (eqRs_h A d p1 p2 q1 q2 c1 c2 k1 k2 h1 h2) hB_)
theorem eqRs_v (A : AH) (d : Rn) (p1 p2 q1 q2 : Option Addr) (c1 c2 k1 k2 : Nat) (h1 : InR A ⟨d, p1, c1, p2, c2⟩) (h2 : InR A ⟨d, q1, k1, q2, k2⟩) : valA Tryd.prog 15 #[.agg #[.string (bs d.code), .int .i64 d.d1, .int .i64 d.d2, .int .i64 d.d3, .int .i64 d.d4, .slice p1 d.cl.length c1, .slice p2 d.df.length c2], .agg #[.string (bs d.code), .int .i64 d.d1, .int .i64 d.d2, .int .i64 d.d3, .int .i64 d.d4, .slice q1 d.cl.length k1, .slice q2 d.df.length k2]] A = some (.bool true) := valA_eq (pureA_at (by kernel_rfl) (eqRs_h A d p1 p2 q1 q2 c1 c2 k1 k2 h1 h2) (SubA.refl _))
theorem eqTab_h (A : AH) (F G : List Rs) (p : Option Addr) (cap : Nat) (q : Option Addr) (qcap : Nat) (h1 : RsR A p F) (h2 : RsR A q G) (hd : F.map Rs.d = G.map Rs.d) (hl : F.length ≤ 1000) : CallA Tryd.prog 27 #[.slice p F.length cap, .slice q G.length qcap] A (fun u_ A_ => u_ = .bool true ∧ SubA A A_) := by
  refine callA_of_denA ⟨Tryd.prog, 27, Tryd.f27, 27, [0, 1, 4, 5], [], [(6, .q false)], _⟩ (args := [_, _]) Tryd.func27 rfl (by kernel_rfl) Tryd.ntmps27 (by simp) (by kernel_rfl) ?_
  intro ν fr; have nuE := fr.nu
  have hlen : G.length = F.length := by have := congrArg List.length hd; simpa using this.symm
  simp (maxDischargeDepth := 16) only [argE_nil, argE_cons, ↓vmD, vmV, vmStd, Nat.reduceMul, ↓reduceIte, Nat.reduceAdd, Nat.reduceSub, Nat.reduceEqDiff, Nat.reduceLT, Nat.reduceLeDiff, reduceCtorEq, Int.reduceToNat, Int.reduceLT, Int.reduceLE, Int.reduceEq, Int.reduceNeg, Int.reduceBEq, Int.reduceBNe, String.reduceEq, forall_const, ↓vmDA, vmVA, ↓vmQA, vmR, vmRA, ↓vmSA, vmSV, tyS, nuE, SubA.skip, SubA.refl, fr.2, vbCmp, ↓sA_usd, ↓sA_ust, hlen]
  obtain ⟨e, l, he, hdd, hle⟩ : ∃ (e : Nat) (l : List Rs), e = 0 ∧ l = F.drop e ∧ e ≤ F.length := ⟨0, F, rfl, rfl, by omega⟩
  rw [show (5, some (Value.int .i64 0)) = (5, some (Value.int .i64 (e : Int))) by rw [he]; rfl]
  clear he nuE fr
  induction l generalizing e with
  | nil =>
    obtain ⟨hn1, hn2⟩ := drop_nil hdd hle
    have lt : ((e : Int) < (F.length : Int)) = False := eq_false (by omega)
    refine LoopA.intro (by kernel_rfl) ?_
    intro ν fr; have nuE := fr.nu
    simp (maxDischargeDepth := 16) only [argE_nil, argE_cons, ↓vmD, vmV, vmStd, Nat.reduceMul, ↓reduceIte, Nat.reduceAdd, Nat.reduceSub, Nat.reduceEqDiff, Nat.reduceLT, Nat.reduceLeDiff, reduceCtorEq, Int.reduceToNat, Int.reduceLT, Int.reduceLE, Int.reduceEq, Int.reduceNeg, Int.reduceBEq, Int.reduceBNe, String.reduceEq, forall_const, ↓vmDA, vmVA, ↓vmQA, vmR, vmRA, ↓vmSA, vmSV, tyS, nuE, SubA.skip, SubA.refl, fr.2, vbCmp, ↓sA_usd, ↓sA_ust, lt]
  | cons x l ih =>
    obtain ⟨ha, hlt, hd', htk⟩ := drop_some hdd
    have lt : ((e : Int) < (F.length : Int)) = True := eq_true (by omega)
    have li : ((e : Int) < 0) = False := eq_false (by omega)
    have we : IntKind.i64.wrap ((e : Int) + 1) = ((e + 1 : Nat) : Int) := by rw [w_i64 (by omega) (by omega)]; omega
    obtain ⟨y, hy, hyd⟩ : ∃ y, G[e]? = some y ∧ y.d = x.d := by
      have h3 : (F.map Rs.d)[e]? = (G.map Rs.d)[e]? := by rw [hd]
      rw [List.getElem?_map, List.getElem?_map, ha] at h3
      cases hg : G[e]? with
      | none => rw [hg] at h3; cases h3
      | some y => rw [hg] at h3; simp at h3; exact ⟨y, rfl, h3.symm⟩
    obtain ⟨bk, off, cs, ty, fr0, hp0, hbk, hcr, hcc⟩ := h1.1.at ha
    obtain ⟨bk2, off2, cs2, ty2, fr2, hp2, hbk2, hcr2, hcc2⟩ := h2.1.at hy
    have i1 := h1.2 x (List.mem_of_getElem? ha)
    have i2 := h2.2 y (List.mem_of_getElem? hy)
    obtain ⟨xd, xp1, xc1, xp2, xc2⟩ := x
    obtain ⟨yd, yp1, yc1, yp2, yc2⟩ := y
    simp only at hyd
    subst hyd
    subst hp0
    subst hp2
    simp only [rsC] at hcr hcr2
    have er := eqRs_v A yd xp1 xp2 yp1 yp2 xc1 xc2 yc1 yc2 i1 i2
    refine LoopA.intro (by kernel_rfl) ?_
    intro ν fr; have nuE := fr.nu
    simp (maxDischargeDepth := 16) only [argE_nil, argE_cons, ↓vmD, vmV, vmStd, Nat.reduceMul, ↓reduceIte, Nat.reduceAdd, Nat.reduceSub, Nat.reduceEqDiff, Nat.reduceLT, Nat.reduceLeDiff, reduceCtorEq, Int.reduceToNat, Int.reduceLT, Int.reduceLE, Int.reduceEq, Int.reduceNeg, Int.reduceBEq, Int.reduceBNe, String.reduceEq, forall_const, ↓vmDA, vmVA, ↓vmQA, vmR, vmRA, ↓vmSA, vmSV, tyS, nuE, SubA.skip, SubA.refl, fr.2, vbCmp, ↓sA_usd, ↓sA_ust, lt, li, hlen, hbk, hbk2, hcr, hcr2, er, we]
    exact LoopA.weak (ih (e + 1) hd' (by omega)) (by simp only [subE, get_cons, Nat.reduceEqDiff, ↓reduceIte, reduceCtorEq, Nat.reduceAdd, and_self, and_true]) (SubA.refl _)
theorem eqTab_w (A : AH) (F G : List Rs) (p : Option Addr) (cap : Nat) (q : Option Addr) (qcap : Nat) (h1 : RsR A p F) (h2 : RsR A q G) (hd : F.map Rs.d = G.map Rs.d) (hl : F.length ≤ 1000) (B_ : AH) (hB_ : SubA A B_) : valA Tryd.prog 27 #[.slice p F.length cap, .slice q G.length qcap] B_ = some (.bool true) := valA_eq (pureA_at (by kernel_rfl) (eqTab_h A F G p cap q qcap h1 h2 hd hl) hB_)
theorem eqTab_v (A : AH) (F G : List Rs) (p : Option Addr) (cap : Nat) (q : Option Addr) (qcap : Nat) (h1 : RsR A p F) (h2 : RsR A q G) (hd : F.map Rs.d = G.map Rs.d) (hl : F.length ≤ 1000) : valA Tryd.prog 27 #[.slice p F.length cap, .slice q G.length qcap] A = some (.bool true) := valA_eq (pureA_at (by kernel_rfl) (eqTab_h A F G p cap q qcap h1 h2 hd hl) (SubA.refl _))
def frRn : Rn := ⟨[102, 114, 97, 117, 100], 120, 45, 30, 30, [[108, 101, 116, 116, 101, 114], [112, 104, 111, 116, 111]], [[114, 101, 99, 101, 105, 112, 116]]⟩
theorem fraudP_h : CallA Tryd.prog 28 #[] [] (fun u_ A_ => ∃ (r : Rs) (B : AH), u_ = .agg (rsC r).toArray ∧ r.d = frRn ∧ InR B r ∧ SubA B A_) := by
  refine callA_of_denA ⟨Tryd.prog, 28, Tryd.f28, 4, [0], [], [], _⟩ (args := []) Tryd.func28 rfl (by kernel_rfl) Tryd.ntmps28 (by simp) (by kernel_rfl) ?_
  intro ν fr; have nuE := fr.nu
  simp (maxDischargeDepth := 16) only [argE_nil, argE_cons, ↓vmD, vmV, vmStd, Nat.reduceMul, ↓reduceIte, Nat.reduceAdd, Nat.reduceSub, Nat.reduceEqDiff, Nat.reduceLT, Nat.reduceLeDiff, reduceCtorEq, Int.reduceToNat, Int.reduceLT, Int.reduceLE, Int.reduceEq, Int.reduceNeg, Int.reduceBEq, Int.reduceBNe, String.reduceEq, forall_const, ↓vmDA, vmVA, ↓vmQA, vmR, vmRA, ↓vmSA, vmSV, tyS, nuE, SubA.skip, SubA.refl, fr.2, vbCmp, ↓sA_usd, ↓sA_ust, sc_s2, sc_s1]
  have t1 : TxR [(ν 1, Obj.cells #[.string ⟨#[108, 101, 116, 116, 101, 114]⟩, .string ⟨#[112, 104, 111, 116, 111]⟩] 9)] (some ⟨ν 1, 0, none⟩) 2 frRn.cl := TxR.at (ν 1) 9 frRn.cl (by decide)
  have t2 : TxR [(ν 2, Obj.cells #[.string ⟨#[114, 101, 99, 101, 105, 112, 116]⟩] 9)] (some ⟨ν 2, 0, none⟩) 1 frRn.df := TxR.at (ν 2) 9 frRn.df (by decide)
  refine ⟨⟨frRn, some ⟨ν 1, 0, none⟩, 2, some ⟨ν 2, 0, none⟩, 1⟩, _, rfl, rfl, ⟨t1.mono ?_, t2.mono ?_⟩, SubA.refl _⟩
  · exact SubA.skip (by simp [Vm.look, nuE]) (SubA.left [_] _)
  · exact SubA.left [_] _

end Go.Proofs.YtamiclgnehfhpaaDoor
